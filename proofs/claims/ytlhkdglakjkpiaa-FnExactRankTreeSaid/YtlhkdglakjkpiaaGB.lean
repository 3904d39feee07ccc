/- A part of the road: what it proves stands in its last texts. -/
import Derived.Test.YtlhkdglakjkpiaaSIds
import Derived.Test.YtlhkdglakjkpiaaProg
set_option autoImplicit false
set_option maxRecDepth 100000
set_option linter.unusedVariables false
namespace Go.AI
open Go.Proofs

/-! ### laws_FnExactRankTree -/


theorem laws_FnExactRankTree_p1 (a0 : ByteArray)
    (h1 : ((a0).size : Int) > (1048576 : Int)) :
    SC cfg.P i_laws_FnExactRankTree [.s (.v .str a0)] (.s (.v .bool true)) [] :=
  SC_of_run cfgOK (its := [.bool true])
    (ps := [decide (((a0).size : Int) > (1048576 : Int)) = true]) (by kernel_rfl) ⟨(decide_eq_true h1), trivial⟩ get_laws_FnExactRankTree (by decide)

theorem laws_FnExactRankTree_p2 (a0 : ByteArray) (c1a : Int) (c1b : Bool) (c2a : Int) (c2b : Bool)
    (h1 : ¬ (((a0).size : Int) > (1048576 : Int)))
    (h2 : SC cfg.P i_spec_RankTree [.s (.v .str a0)] (.tup [.v (.int .i64) c1a, .v .bool c1b]) [])
    (h3 : SC cfg.P i_impl_RankTree [.s (.v .str a0)] (.tup [.v (.int .i64) c2a, .v .bool c2b]) [])
    (h4 : c2a = c1a)
    (h5 : (!(c2b == c1b)) = false) :
    SC cfg.P i_laws_FnExactRankTree [.s (.v .str a0)] (.s (.v .bool true)) [] :=
  SC_of_run cfgOK (its := [.bool false, .res (.tup [.v (.int .i64) c1a, .v .bool c1b]) [] [] [], .res (.tup [.v (.int .i64) c2a, .v .bool c2b]) [] [] [], .bool false, .bool false])
    (ps := [decide (((a0).size : Int) > (1048576 : Int)) = false,
      SC cfg.P i_spec_RankTree [.s (.v .str a0)] (.tup [.v (.int .i64) c1a, .v .bool c1b]) [],
      SC cfg.P i_impl_RankTree [.s (.v .str a0)] (.tup [.v (.int .i64) c2a, .v .bool c2b]) [],
      (c2a != c1a) = false,
      (!(c2b == c1b)) = false]) (by kernel_rfl) ⟨(decide_eq_false h1), h2, h3, (bne_f h4), h5, trivial⟩ get_laws_FnExactRankTree (by decide)

/-! ### spec_RankTree -/


def spec_RankTree_L0a (x0 : ByteArray) (x4 : Int) (x12 : (List ByteArray)) (x13 : Int) (x14 : Int) : St := mkSt 25 [(0, .s (.v .str x0)), (4, .s (.v (.int .i64) x4)), (12, .s (.v (.sl .str) x12)), (13, .s (.v (.int .i64) x13)), (14, .s (.v (.int .i64) x14))] []

def spec_RankTree_L0X1 (y0 : ByteArray) (y4 : Int) (y12 : (List ByteArray)) (y13 : Int) (y14 : Int) (y15 : Bool) : St := mkSt 25 [(0, .s (.v .str y0)), (4, .s (.v (.int .i64) y4)), (12, .s (.v (.sl .str) y12)), (13, .s (.v (.int .i64) y13)), (14, .s (.v (.int .i64) y14)), (15, .s (.v .bool y15))] []

theorem spec_RankTree_L0a_i1 (x0 : ByteArray) (x4 : Int) (x12 : (List ByteArray)) (x13 : Int) (x14 : Int)
    (h1 : x14 < x13)
    (h2 : 0 ≤ x14)
    (h3 : x14 < (List.length x12 : Int))
    (h4 : (Op.bytesLess ((List.getD x12 (x14).toNat (⟨#[]⟩ : ByteArray))).toList (x0).toList) = true)
    {e : AEx} {st : St} (next : LoopSC cfg.P 1 (lb P_spec_RankTree 0) (spec_RankTree_L0a x0 (IntKind.wrap .i64 (x4 + (1 : Int))) x12 x13 (IntKind.wrap .i64 (x14 + (1 : Int)))) e st) :
    LoopSC cfg.P 1 (lb P_spec_RankTree 0) (spec_RankTree_L0a x0 x4 x12 x13 x14) e st :=
  loop_iter cfgOK (f := i_spec_RankTree) (its := [.bool true, .bool true])
    (ps := [decide (x14 < x13) = true,
      0 ≤ x14,
      x14 < (List.length x12 : Int),
      (Op.bytesLess ((List.getD x12 (x14).toNat (⟨#[]⟩ : ByteArray))).toList (x0).toList) = true]) (st1 := spec_RankTree_L0a x0 (IntKind.wrap .i64 (x4 + (1 : Int))) x12 x13 (IntKind.wrap .i64 (x14 + (1 : Int)))) (by kernel_rfl) ⟨(decide_eq_true h1), h2, h3, h4, trivial⟩ next

theorem spec_RankTree_L0a_i2 (x0 : ByteArray) (x4 : Int) (x12 : (List ByteArray)) (x13 : Int) (x14 : Int)
    (h1 : x14 < x13)
    (h2 : 0 ≤ x14)
    (h3 : x14 < (List.length x12 : Int))
    (h4 : (Op.bytesLess ((List.getD x12 (x14).toNat (⟨#[]⟩ : ByteArray))).toList (x0).toList) = false)
    {e : AEx} {st : St} (next : LoopSC cfg.P 1 (lb P_spec_RankTree 0) (spec_RankTree_L0a x0 x4 x12 x13 (IntKind.wrap .i64 (x14 + (1 : Int)))) e st) :
    LoopSC cfg.P 1 (lb P_spec_RankTree 0) (spec_RankTree_L0a x0 x4 x12 x13 x14) e st :=
  loop_iter cfgOK (f := i_spec_RankTree) (its := [.bool true, .bool false])
    (ps := [decide (x14 < x13) = true,
      0 ≤ x14,
      x14 < (List.length x12 : Int),
      (Op.bytesLess ((List.getD x12 (x14).toNat (⟨#[]⟩ : ByteArray))).toList (x0).toList) = false]) (st1 := spec_RankTree_L0a x0 x4 x12 x13 (IntKind.wrap .i64 (x14 + (1 : Int)))) (by kernel_rfl) ⟨(decide_eq_true h1), h2, h3, h4, trivial⟩ next

theorem spec_RankTree_L0a_x3 (x0 : ByteArray) (x4 : Int) (x12 : (List ByteArray)) (x13 : Int) (x14 : Int)
    (h1 : ¬ (x14 < x13)) :
    LoopSC cfg.P 1 (lb P_spec_RankTree 0) (spec_RankTree_L0a x0 x4 x12 x13 x14) (.exit 0) (spec_RankTree_L0X1 x0 x4 x12 x13 x14 false) :=
  loop_out cfgOK (f := i_spec_RankTree) (its := [.bool false])
    (ps := [decide (x14 < x13) = false]) (by kernel_rfl) ⟨(decide_eq_false h1), trivial⟩ (fun h => by cases h)

theorem spec_RankTree_p1 (a0 : ByteArray) (c2 : Int) (c3 : (List ByteArray)) (k1y0 : ByteArray) (k1y4 : Int) (k1y12 : (List ByteArray)) (k1y13 : Int) (k1y14 : Int) (k1y15 : Bool)
    (h1 : SC cfg.P i_spec_trIs [.s (.v .str a0)] (.s (.v .bool true)) [])
    (h2 : SC cfg.P i_spec_trCarets [.s (.v .str a0)] (.s (.v (.int .i64) c2)) [])
    (h3 : SC cfg.P i_spec_trList [.s (.v (.int .i64) c2)] (.s (.v (.sl .str) c3)) [])
    (h4 : LoopSC cfg.P 1 (lb P_spec_RankTree 0) (spec_RankTree_L0a a0 (0 : Int) c3 ((List.length c3 : Nat) : Int) (0 : Int)) (.exit 0) (spec_RankTree_L0X1 k1y0 k1y4 k1y12 k1y13 k1y14 k1y15)) :
    SC cfg.P i_spec_RankTree [.s (.v .str a0)] (.tup [.v (.int .i64) k1y4, .v .bool true]) [] :=
  SC_of_run cfgOK (its := [.res (.s (.v .bool true)) [] [] [], .res (.s (.v (.int .i64) c2)) [] [] [], .res (.s (.v (.sl .str) c3)) [] [] [], .loop (fun _ => (.exit 0, spec_RankTree_L0X1 k1y0 k1y4 k1y12 k1y13 k1y14 k1y15))])
    (ps := [SC cfg.P i_spec_trIs [.s (.v .str a0)] (.s (.v .bool true)) [],
      SC cfg.P i_spec_trCarets [.s (.v .str a0)] (.s (.v (.int .i64) c2)) [],
      SC cfg.P i_spec_trList [.s (.v (.int .i64) c2)] (.s (.v (.sl .str) c3)) [],
      LoopSC cfg.P 1 (lb P_spec_RankTree 0) (spec_RankTree_L0a a0 (0 : Int) c3 ((List.length c3 : Nat) : Int) (0 : Int)) (.exit 0) (spec_RankTree_L0X1 k1y0 k1y4 k1y12 k1y13 k1y14 k1y15)]) (by kernel_rfl) ⟨h1, h2, h3, h4, trivial⟩ get_spec_RankTree (by decide)

theorem spec_RankTree_p2 (a0 : ByteArray)
    (h1 : SC cfg.P i_spec_trIs [.s (.v .str a0)] (.s (.v .bool false)) []) :
    SC cfg.P i_spec_RankTree [.s (.v .str a0)] (.tup [.v (.int .i64) (0 : Int), .v .bool false]) [] :=
  SC_of_run cfgOK (its := [.res (.s (.v .bool false)) [] [] []])
    (ps := [SC cfg.P i_spec_trIs [.s (.v .str a0)] (.s (.v .bool false)) []]) (by kernel_rfl) ⟨h1, trivial⟩ get_spec_RankTree (by decide)

/-! ### impl_RankTree -/


theorem impl_RankTree_p1 (a0 : ByteArray) (c1a : Tr) (c2 : Int) (c3 : (List ByteArray)) (c4 : Int)
    (h1 : SC cfg.P i_impl_parse [.s (.v .str a0)] (.tup [.v .tree c1a, .v .bool true]) [])
    (h2 : SC cfg.P i_impl_node_carets [.s (.v .tree c1a)] (.s (.v (.int .i64) c2)) [])
    (h3 : SC cfg.P i_impl_trees [.s (.v (.int .i64) c2)] (.s (.v (.sl .str) c3)) [])
    (h4 : SC cfg.P i_slices_Index_string [.s (.v (.sl .str) c3), .s (.v .str a0)] (.s (.v (.int .i64) c4)) []) :
    SC cfg.P i_impl_RankTree [.s (.v .str a0)] (.tup [.v (.int .i64) c4, .v .bool true]) [] :=
  SC_of_run cfgOK (its := [.res (.tup [.v .tree c1a, .v .bool true]) [] [] [], .res (.s (.v (.int .i64) c2)) [] [] [], .res (.s (.v (.sl .str) c3)) [] [] [], .res (.s (.v (.int .i64) c4)) [] [] []])
    (ps := [SC cfg.P i_impl_parse [.s (.v .str a0)] (.tup [.v .tree c1a, .v .bool true]) [],
      SC cfg.P i_impl_node_carets [.s (.v .tree c1a)] (.s (.v (.int .i64) c2)) [],
      SC cfg.P i_impl_trees [.s (.v (.int .i64) c2)] (.s (.v (.sl .str) c3)) [],
      SC cfg.P i_slices_Index_string [.s (.v (.sl .str) c3), .s (.v .str a0)] (.s (.v (.int .i64) c4)) []]) (by kernel_rfl) ⟨h1, h2, h3, h4, trivial⟩ get_impl_RankTree (by decide)

theorem impl_RankTree_p2 (a0 : ByteArray) (c1a : Tr)
    (h1 : SC cfg.P i_impl_parse [.s (.v .str a0)] (.tup [.v .tree c1a, .v .bool false]) []) :
    SC cfg.P i_impl_RankTree [.s (.v .str a0)] (.tup [.v (.int .i64) (0 : Int), .v .bool false]) [] :=
  SC_of_run cfgOK (its := [.res (.tup [.v .tree c1a, .v .bool false]) [] [] []])
    (ps := [SC cfg.P i_impl_parse [.s (.v .str a0)] (.tup [.v .tree c1a, .v .bool false]) []]) (by kernel_rfl) ⟨h1, trivial⟩ get_impl_RankTree (by decide)

/-! ### spec_trList -/


def spec_trList_L0a (x0 : Int) (x4 : Int) (xo3 : (List ByteArray)) : St := mkSt 86 [(0, .s (.v (.int .i64) x0)), (3, .s (.osl 3 0)), (4, .s (.v (.int .i64) x4))] [(3, .row t_string .str xo3 0 false)]

def spec_trList_L1a (x0 : Int) (x4 : Int) (x30 : Int) (x31 : Int) (xo3 : (List ByteArray)) (xo23 : (List ByteArray)) (xo28 : (List ByteArray)) : St := mkSt 86 [(0, .s (.v (.int .i64) x0)), (3, .s (.osl 3 0)), (4, .s (.v (.int .i64) x4)), (6, .s (.osl 28 0)), (29, .s (.osl 23 0)), (30, .s (.v (.int .i64) x30)), (31, .s (.v (.int .i64) x31))] [(3, .row t_string .str xo3 0 false), (23, .row t_string .str xo23 0 false), (28, .row t_string .str xo28 0 false)]

def spec_trList_L2a (x0 : Int) (x4 : Int) (x8 : ByteArray) (x30 : Int) (x31 : Int) (x36 : Int) (x37 : Int) (xo3 : (List ByteArray)) (xo23 : (List ByteArray)) (xo28 : (List ByteArray)) : St := mkSt 86 [(0, .s (.v (.int .i64) x0)), (3, .s (.osl 3 0)), (4, .s (.v (.int .i64) x4)), (6, .s (.osl 28 0)), (8, .s (.v .str x8)), (29, .s (.osl 23 0)), (30, .s (.v (.int .i64) x30)), (31, .s (.v (.int .i64) x31)), (35, .s (.osl 28 0)), (36, .s (.v (.int .i64) x36)), (37, .s (.v (.int .i64) x37))] [(3, .row t_string .str xo3 0 false), (23, .row t_string .str xo23 0 false), (28, .row t_string .str xo28 0 false)]

def spec_trList_L2X1 (y0 : Int) (y4 : Int) (y8 : ByteArray) (y30 : Int) (y31 : Int) (y36 : Int) (y37 : Int) (y38 : Bool) (yo3 : (List ByteArray)) (yo23 : (List ByteArray)) (yo28 : (List ByteArray)) : St := mkSt 86 [(0, .s (.v (.int .i64) y0)), (3, .s (.osl 3 0)), (4, .s (.v (.int .i64) y4)), (6, .s (.osl 28 0)), (8, .s (.v .str y8)), (29, .s (.osl 23 0)), (30, .s (.v (.int .i64) y30)), (31, .s (.v (.int .i64) y31)), (35, .s (.osl 28 0)), (36, .s (.v (.int .i64) y36)), (37, .s (.v (.int .i64) y37)), (38, .s (.v .bool y38))] [(3, .row t_string .str yo3 0 false), (23, .row t_string .str yo23 0 false), (28, .row t_string .str yo28 0 false)]

def spec_trList_L1X1 (y0 : Int) (y4 : Int) (y30 : Int) (y31 : Int) (y32 : Bool) (yo3 : (List ByteArray)) (yo23 : (List ByteArray)) (yo28 : (List ByteArray)) : St := mkSt 86 [(0, .s (.v (.int .i64) y0)), (3, .s (.osl 3 0)), (4, .s (.v (.int .i64) y4)), (6, .s (.osl 28 0)), (29, .s (.osl 23 0)), (30, .s (.v (.int .i64) y30)), (31, .s (.v (.int .i64) y31)), (32, .s (.v .bool y32))] [(3, .row t_string .str yo3 0 false), (23, .row t_string .str yo23 0 false), (28, .row t_string .str yo28 0 false)]

def spec_trList_L0X1 (y0 : Int) (y4 : Int) (y19 : Bool) (yo3 : (List ByteArray)) : St := mkSt 86 [(0, .s (.v (.int .i64) y0)), (3, .s (.osl 3 0)), (4, .s (.v (.int .i64) y4)), (19, .s (.v .bool y19))] [(3, .row t_string .str yo3 0 false)]

def spec_trList_L3a (x11 : Int) (xo3 : (List ByteArray)) : St := mkSt 86 [(3, .s (.osl 3 0)), (11, .s (.v (.int .i64) x11))] [(3, .row t_string .str xo3 0 false)]

def spec_trList_L4a (x11 : Int) (x12 : ByteArray) (x13 : Int) (xo3 : (List ByteArray)) : St := mkSt 86 [(3, .s (.osl 3 0)), (11, .s (.v (.int .i64) x11)), (12, .s (.v .str x12)), (13, .s (.v (.int .i64) x13))] [(3, .row t_string .str xo3 0 false)]

def spec_trList_L4X1 (y11 : Int) (y12 : ByteArray) (y13 : Int) (y70 : Bool) (yo3 : (List ByteArray)) : St := mkSt 86 [(3, .s (.osl 3 0)), (11, .s (.v (.int .i64) y11)), (12, .s (.v .str y12)), (13, .s (.v (.int .i64) y13)), (70, .s (.v .bool y70))] [(3, .row t_string .str yo3 0 false)]

def spec_trList_L3X1 (y11 : Int) (y52 : Bool) (yo3 : (List ByteArray)) : St := mkSt 86 [(3, .s (.osl 3 0)), (11, .s (.v (.int .i64) y11)), (52, .s (.v .bool y52))] [(3, .row t_string .str yo3 0 false)]

theorem spec_trList_L0a_i1 (x0 : Int) (x4 : Int) (xo3 : (List ByteArray)) (dc1 : (List ByteArray)) (dc2 : (List ByteArray)) (dk1y0 : Int) (dk1y4 : Int) (dk1y30 : Int) (dk1y31 : Int) (dk1y32 : Bool) (dk1yo3 : (List ByteArray)) (dk1yo23 : (List ByteArray)) (dk1yo28 : (List ByteArray))
    (h1 : x4 < x0)
    (h2 : SC cfg.P i_spec_trList [.s (.v (.int .i64) x4)] (.s (.own t_string .str dc1)) [])
    (h3 : SC cfg.P i_spec_trList [.s (.v (.int .i64) (IntKind.wrap .i64 ((IntKind.wrap .i64 (x0 - (1 : Int))) - x4)))] (.s (.own t_string .str dc2)) [])
    (h4 : LoopSC cfg.P 1 (lb P_spec_trList 1) (spec_trList_L1a x0 x4 ((List.length dc1 : Nat) : Int) (0 : Int) xo3 dc1 dc2) (.exit 2) (spec_trList_L1X1 dk1y0 dk1y4 dk1y30 dk1y31 dk1y32 dk1yo3 dk1yo23 dk1yo28))
    {e : AEx} {st : St} (next : LoopSC cfg.P 1 (lb P_spec_trList 0) (spec_trList_L0a dk1y0 (IntKind.wrap .i64 (dk1y4 + (1 : Int))) dk1yo3) e st) :
    LoopSC cfg.P 1 (lb P_spec_trList 0) (spec_trList_L0a x0 x4 xo3) e st :=
  loop_iter cfgOK (f := i_spec_trList) (its := [.bool true, .res (.s (.own t_string .str dc1)) [] [] [23], .res (.s (.own t_string .str dc2)) [] [] [28], .loop (fun _ => (.exit 2, spec_trList_L1X1 dk1y0 dk1y4 dk1y30 dk1y31 dk1y32 dk1yo3 dk1yo23 dk1yo28))])
    (ps := [decide (x4 < x0) = true,
      SC cfg.P i_spec_trList [.s (.v (.int .i64) x4)] (.s (.own t_string .str dc1)) [],
      SC cfg.P i_spec_trList [.s (.v (.int .i64) (IntKind.wrap .i64 ((IntKind.wrap .i64 (x0 - (1 : Int))) - x4)))] (.s (.own t_string .str dc2)) [],
      LoopSC cfg.P 1 (lb P_spec_trList 1) (spec_trList_L1a x0 x4 ((List.length dc1 : Nat) : Int) (0 : Int) xo3 dc1 dc2) (.exit 2) (spec_trList_L1X1 dk1y0 dk1y4 dk1y30 dk1y31 dk1y32 dk1yo3 dk1yo23 dk1yo28)]) (st1 := spec_trList_L0a dk1y0 (IntKind.wrap .i64 (dk1y4 + (1 : Int))) dk1yo3) (by kernel_rfl) ⟨(decide_eq_true h1), h2, h3, h4, trivial⟩ next

theorem spec_trList_L0a_x2 (x0 : Int) (x4 : Int) (xo3 : (List ByteArray))
    (h1 : ¬ (x4 < x0)) :
    LoopSC cfg.P 1 (lb P_spec_trList 0) (spec_trList_L0a x0 x4 xo3) (.exit 0) (spec_trList_L0X1 x0 x4 false xo3) :=
  loop_out cfgOK (f := i_spec_trList) (its := [.bool false])
    (ps := [decide (x4 < x0) = false]) (by kernel_rfl) ⟨(decide_eq_false h1), trivial⟩ (fun h => by cases h)

theorem spec_trList_L1a_i1 (x0 : Int) (x4 : Int) (x30 : Int) (x31 : Int) (xo3 : (List ByteArray)) (xo23 : (List ByteArray)) (xo28 : (List ByteArray)) (dk1y0 : Int) (dk1y4 : Int) (dk1y8 : ByteArray) (dk1y30 : Int) (dk1y31 : Int) (dk1y36 : Int) (dk1y37 : Int) (dk1y38 : Bool) (dk1yo3 : (List ByteArray)) (dk1yo23 : (List ByteArray)) (dk1yo28 : (List ByteArray))
    (h1 : x31 < x30)
    (h2 : 0 ≤ x31)
    (h3 : x31 < (List.length xo23 : Int))
    (h4 : (x31).toNat < List.length xo23)
    (h5 : LoopSC cfg.P 1 (lb P_spec_trList 2) (spec_trList_L2a x0 x4 (List.getD xo23 (x31).toNat (⟨#[]⟩ : ByteArray)) x30 x31 ((List.length xo28 : Nat) : Int) (0 : Int) xo3 xo23 xo28) (.exit 4) (spec_trList_L2X1 dk1y0 dk1y4 dk1y8 dk1y30 dk1y31 dk1y36 dk1y37 dk1y38 dk1yo3 dk1yo23 dk1yo28))
    {e : AEx} {st : St} (next : LoopSC cfg.P 1 (lb P_spec_trList 1) (spec_trList_L1a dk1y0 dk1y4 dk1y30 (IntKind.wrap .i64 (dk1y31 + (1 : Int))) dk1yo3 dk1yo23 dk1yo28) e st) :
    LoopSC cfg.P 1 (lb P_spec_trList 1) (spec_trList_L1a x0 x4 x30 x31 xo3 xo23 xo28) e st :=
  loop_iter cfgOK (f := i_spec_trList) (its := [.bool true, .loop (fun _ => (.exit 4, spec_trList_L2X1 dk1y0 dk1y4 dk1y8 dk1y30 dk1y31 dk1y36 dk1y37 dk1y38 dk1yo3 dk1yo23 dk1yo28))])
    (ps := [decide (x31 < x30) = true,
      0 ≤ x31,
      x31 < (List.length xo23 : Int),
      (x31).toNat < List.length xo23,
      LoopSC cfg.P 1 (lb P_spec_trList 2) (spec_trList_L2a x0 x4 (List.getD xo23 (x31).toNat (⟨#[]⟩ : ByteArray)) x30 x31 ((List.length xo28 : Nat) : Int) (0 : Int) xo3 xo23 xo28) (.exit 4) (spec_trList_L2X1 dk1y0 dk1y4 dk1y8 dk1y30 dk1y31 dk1y36 dk1y37 dk1y38 dk1yo3 dk1yo23 dk1yo28)]) (st1 := spec_trList_L1a dk1y0 dk1y4 dk1y30 (IntKind.wrap .i64 (dk1y31 + (1 : Int))) dk1yo3 dk1yo23 dk1yo28) (by kernel_rfl) ⟨(decide_eq_true h1), h2, h3, h4, h5, trivial⟩ next

theorem spec_trList_L1a_x2 (x0 : Int) (x4 : Int) (x30 : Int) (x31 : Int) (xo3 : (List ByteArray)) (xo23 : (List ByteArray)) (xo28 : (List ByteArray))
    (h1 : ¬ (x31 < x30)) :
    LoopSC cfg.P 1 (lb P_spec_trList 1) (spec_trList_L1a x0 x4 x30 x31 xo3 xo23 xo28) (.exit 2) (spec_trList_L1X1 x0 x4 x30 x31 false xo3 xo23 xo28) :=
  loop_out cfgOK (f := i_spec_trList) (its := [.bool false])
    (ps := [decide (x31 < x30) = false]) (by kernel_rfl) ⟨(decide_eq_false h1), trivial⟩ (fun h => by cases h)

theorem spec_trList_L2a_i1 (x0 : Int) (x4 : Int) (x8 : ByteArray) (x30 : Int) (x31 : Int) (x36 : Int) (x37 : Int) (xo3 : (List ByteArray)) (xo23 : (List ByteArray)) (xo28 : (List ByteArray)) (dc1 : ByteArray)
    (h1 : x37 < x36)
    (h2 : 0 ≤ x37)
    (h3 : x37 < (List.length xo28 : Int))
    (h4 : (x37).toNat < List.length xo28)
    (h5 : SC cfg.P i_spec_trOf [.s (.v .str x8), .s (.v .str (List.getD xo28 (x37).toNat (⟨#[]⟩ : ByteArray)))] (.s (.v .str dc1)) [])
    (h6 : sizeOK (List.length xo3 + List.length ([dc1] : List ByteArray)))
    {e : AEx} {st : St} (next : LoopSC cfg.P 1 (lb P_spec_trList 2) (spec_trList_L2a x0 x4 x8 x30 x31 x36 (IntKind.wrap .i64 (x37 + (1 : Int))) (xo3 ++ ([dc1] : List ByteArray)) xo23 xo28) e st) :
    LoopSC cfg.P 1 (lb P_spec_trList 2) (spec_trList_L2a x0 x4 x8 x30 x31 x36 x37 xo3 xo23 xo28) e st :=
  loop_iter cfgOK (f := i_spec_trList) (its := [.bool true, .res (.s (.v .str dc1)) [] [] []])
    (ps := [decide (x37 < x36) = true,
      0 ≤ x37,
      x37 < (List.length xo28 : Int),
      (x37).toNat < List.length xo28,
      SC cfg.P i_spec_trOf [.s (.v .str x8), .s (.v .str (List.getD xo28 (x37).toNat (⟨#[]⟩ : ByteArray)))] (.s (.v .str dc1)) [],
      sizeOK (List.length xo3 + List.length ([dc1] : List ByteArray))]) (st1 := spec_trList_L2a x0 x4 x8 x30 x31 x36 (IntKind.wrap .i64 (x37 + (1 : Int))) (xo3 ++ ([dc1] : List ByteArray)) xo23 xo28) (by kernel_rfl) ⟨(decide_eq_true h1), h2, h3, h4, h5, h6, trivial⟩ next

theorem spec_trList_L2a_x2 (x0 : Int) (x4 : Int) (x8 : ByteArray) (x30 : Int) (x31 : Int) (x36 : Int) (x37 : Int) (xo3 : (List ByteArray)) (xo23 : (List ByteArray)) (xo28 : (List ByteArray))
    (h1 : ¬ (x37 < x36)) :
    LoopSC cfg.P 1 (lb P_spec_trList 2) (spec_trList_L2a x0 x4 x8 x30 x31 x36 x37 xo3 xo23 xo28) (.exit 4) (spec_trList_L2X1 x0 x4 x8 x30 x31 x36 x37 false xo3 xo23 xo28) :=
  loop_out cfgOK (f := i_spec_trList) (its := [.bool false])
    (ps := [decide (x37 < x36) = false]) (by kernel_rfl) ⟨(decide_eq_false h1), trivial⟩ (fun h => by cases h)

theorem spec_trList_L3a_i1 (x11 : Int) (xo3 : (List ByteArray)) (dk1y11 : Int) (dk1y12 : ByteArray) (dk1y13 : Int) (dk1y70 : Bool) (dk1yo3 : (List ByteArray))
    (h1 : x11 < ((List.length xo3 : Nat) : Int))
    (h2 : 0 ≤ x11)
    (h3 : x11 < (List.length xo3 : Int))
    (h4 : (x11).toNat < List.length xo3)
    (h5 : LoopSC cfg.P 1 (lb P_spec_trList 4) (spec_trList_L4a x11 (List.getD xo3 (x11).toNat (⟨#[]⟩ : ByteArray)) x11 xo3) (.exit 8) (spec_trList_L4X1 dk1y11 dk1y12 dk1y13 dk1y70 dk1yo3))
    (h6 : 0 ≤ dk1y13)
    (h7 : dk1y13 < (List.length dk1yo3 : Int))
    (h8 : (dk1y13).toNat < List.length dk1yo3)
    {e : AEx} {st : St} (next : LoopSC cfg.P 1 (lb P_spec_trList 3) (spec_trList_L3a (IntKind.wrap .i64 (dk1y11 + (1 : Int))) (List.set dk1yo3 (dk1y13).toNat dk1y12)) e st) :
    LoopSC cfg.P 1 (lb P_spec_trList 3) (spec_trList_L3a x11 xo3) e st :=
  loop_iter cfgOK (f := i_spec_trList) (its := [.bool true, .loop (fun _ => (.exit 8, spec_trList_L4X1 dk1y11 dk1y12 dk1y13 dk1y70 dk1yo3))])
    (ps := [decide (x11 < ((List.length xo3 : Nat) : Int)) = true,
      0 ≤ x11,
      x11 < (List.length xo3 : Int),
      (x11).toNat < List.length xo3,
      LoopSC cfg.P 1 (lb P_spec_trList 4) (spec_trList_L4a x11 (List.getD xo3 (x11).toNat (⟨#[]⟩ : ByteArray)) x11 xo3) (.exit 8) (spec_trList_L4X1 dk1y11 dk1y12 dk1y13 dk1y70 dk1yo3),
      0 ≤ dk1y13,
      dk1y13 < (List.length dk1yo3 : Int),
      (dk1y13).toNat < List.length dk1yo3]) (st1 := spec_trList_L3a (IntKind.wrap .i64 (dk1y11 + (1 : Int))) (List.set dk1yo3 (dk1y13).toNat dk1y12)) (by kernel_rfl) ⟨(decide_eq_true h1), h2, h3, h4, h5, h6, h7, h8, trivial⟩ next

theorem spec_trList_L3a_x2 (x11 : Int) (xo3 : (List ByteArray))
    (h1 : ¬ (x11 < ((List.length xo3 : Nat) : Int))) :
    LoopSC cfg.P 1 (lb P_spec_trList 3) (spec_trList_L3a x11 xo3) (.exit 6) (spec_trList_L3X1 x11 false xo3) :=
  loop_out cfgOK (f := i_spec_trList) (its := [.bool false])
    (ps := [decide (x11 < ((List.length xo3 : Nat) : Int)) = false]) (by kernel_rfl) ⟨(decide_eq_false h1), trivial⟩ (fun h => by cases h)

theorem spec_trList_L4a_i1 (x11 : Int) (x12 : ByteArray) (x13 : Int) (xo3 : (List ByteArray))
    (h1 : x13 > (0 : Int))
    (h2 : 0 ≤ (IntKind.wrap .i64 (x13 - (1 : Int))))
    (h3 : (IntKind.wrap .i64 (x13 - (1 : Int))) < (List.length xo3 : Int))
    (h4 : ((IntKind.wrap .i64 (x13 - (1 : Int)))).toNat < List.length xo3)
    (h5 : (!(Op.bytesLess ((List.getD xo3 ((IntKind.wrap .i64 (x13 - (1 : Int)))).toNat (⟨#[]⟩ : ByteArray))).toList (x12).toList || (((List.getD xo3 ((IntKind.wrap .i64 (x13 - (1 : Int)))).toNat (⟨#[]⟩ : ByteArray))).toList == (x12).toList))) = true)
    (h6 : 0 ≤ x13)
    (h7 : x13 < (List.length xo3 : Int))
    (h8 : (x13).toNat < List.length xo3)
    {e : AEx} {st : St} (next : LoopSC cfg.P 1 (lb P_spec_trList 4) (spec_trList_L4a x11 x12 (IntKind.wrap .i64 (x13 - (1 : Int))) (List.set xo3 (x13).toNat (List.getD xo3 ((IntKind.wrap .i64 (x13 - (1 : Int)))).toNat (⟨#[]⟩ : ByteArray)))) e st) :
    LoopSC cfg.P 1 (lb P_spec_trList 4) (spec_trList_L4a x11 x12 x13 xo3) e st :=
  loop_iter cfgOK (f := i_spec_trList) (its := [.bool true, .bool true])
    (ps := [decide (x13 > (0 : Int)) = true,
      0 ≤ (IntKind.wrap .i64 (x13 - (1 : Int))),
      (IntKind.wrap .i64 (x13 - (1 : Int))) < (List.length xo3 : Int),
      ((IntKind.wrap .i64 (x13 - (1 : Int)))).toNat < List.length xo3,
      (!(Op.bytesLess ((List.getD xo3 ((IntKind.wrap .i64 (x13 - (1 : Int)))).toNat (⟨#[]⟩ : ByteArray))).toList (x12).toList || (((List.getD xo3 ((IntKind.wrap .i64 (x13 - (1 : Int)))).toNat (⟨#[]⟩ : ByteArray))).toList == (x12).toList))) = true,
      0 ≤ (IntKind.wrap .i64 (x13 - (1 : Int))),
      (IntKind.wrap .i64 (x13 - (1 : Int))) < (List.length xo3 : Int),
      ((IntKind.wrap .i64 (x13 - (1 : Int)))).toNat < List.length xo3,
      0 ≤ x13,
      x13 < (List.length xo3 : Int),
      (x13).toNat < List.length xo3]) (st1 := spec_trList_L4a x11 x12 (IntKind.wrap .i64 (x13 - (1 : Int))) (List.set xo3 (x13).toNat (List.getD xo3 ((IntKind.wrap .i64 (x13 - (1 : Int)))).toNat (⟨#[]⟩ : ByteArray)))) (by kernel_rfl) ⟨(decide_eq_true h1), h2, h3, h4, h5, h2, h3, h4, h6, h7, h8, trivial⟩ next

theorem spec_trList_L4a_x2 (x11 : Int) (x12 : ByteArray) (x13 : Int) (xo3 : (List ByteArray))
    (h1 : x13 > (0 : Int))
    (h2 : 0 ≤ (IntKind.wrap .i64 (x13 - (1 : Int))))
    (h3 : (IntKind.wrap .i64 (x13 - (1 : Int))) < (List.length xo3 : Int))
    (h4 : ((IntKind.wrap .i64 (x13 - (1 : Int)))).toNat < List.length xo3)
    (h5 : (!(Op.bytesLess ((List.getD xo3 ((IntKind.wrap .i64 (x13 - (1 : Int)))).toNat (⟨#[]⟩ : ByteArray))).toList (x12).toList || (((List.getD xo3 ((IntKind.wrap .i64 (x13 - (1 : Int)))).toNat (⟨#[]⟩ : ByteArray))).toList == (x12).toList))) = false) :
    LoopSC cfg.P 1 (lb P_spec_trList 4) (spec_trList_L4a x11 x12 x13 xo3) (.exit 8) (spec_trList_L4X1 x11 x12 x13 false xo3) :=
  loop_out cfgOK (f := i_spec_trList) (its := [.bool true, .bool false])
    (ps := [decide (x13 > (0 : Int)) = true,
      0 ≤ (IntKind.wrap .i64 (x13 - (1 : Int))),
      (IntKind.wrap .i64 (x13 - (1 : Int))) < (List.length xo3 : Int),
      ((IntKind.wrap .i64 (x13 - (1 : Int)))).toNat < List.length xo3,
      (!(Op.bytesLess ((List.getD xo3 ((IntKind.wrap .i64 (x13 - (1 : Int)))).toNat (⟨#[]⟩ : ByteArray))).toList (x12).toList || (((List.getD xo3 ((IntKind.wrap .i64 (x13 - (1 : Int)))).toNat (⟨#[]⟩ : ByteArray))).toList == (x12).toList))) = false]) (by kernel_rfl) ⟨(decide_eq_true h1), h2, h3, h4, h5, trivial⟩ (fun h => by cases h)

theorem spec_trList_L4a_x3 (x11 : Int) (x12 : ByteArray) (x13 : Int) (xo3 : (List ByteArray))
    (h1 : ¬ (x13 > (0 : Int))) :
    LoopSC cfg.P 1 (lb P_spec_trList 4) (spec_trList_L4a x11 x12 x13 xo3) (.exit 8) (spec_trList_L4X1 x11 x12 x13 false xo3) :=
  loop_out cfgOK (f := i_spec_trList) (its := [.bool false])
    (ps := [decide (x13 > (0 : Int)) = false]) (by kernel_rfl) ⟨(decide_eq_false h1), trivial⟩ (fun h => by cases h)

theorem spec_trList_p1 (a0 : Int)
    (h1 : a0 = (0 : Int)) :
    SC cfg.P i_spec_trList [.s (.v (.int .i64) a0)] (.s (.own t_string .str ([(⟨#[46]⟩ : ByteArray)] : List ByteArray))) [] :=
  SC_of_run cfgOK (its := [.bool true])
    (ps := [(a0 == (0 : Int)) = true]) (by kernel_rfl) ⟨(beq_t h1), trivial⟩ get_spec_trList (by decide)

theorem spec_trList_p2 (a0 : Int) (k1y0 : Int) (k1y4 : Int) (k1y19 : Bool) (k1yo3 : (List ByteArray)) (k2y11 : Int) (k2y52 : Bool) (k2yo3 : (List ByteArray))
    (h1 : a0 ≠ (0 : Int))
    (h2 : LoopSC cfg.P 1 (lb P_spec_trList 0) (spec_trList_L0a a0 (0 : Int) ([] : List ByteArray)) (.exit 0) (spec_trList_L0X1 k1y0 k1y4 k1y19 k1yo3))
    (h3 : LoopSC cfg.P 1 (lb P_spec_trList 3) (spec_trList_L3a (1 : Int) k1yo3) (.exit 6) (spec_trList_L3X1 k2y11 k2y52 k2yo3)) :
    SC cfg.P i_spec_trList [.s (.v (.int .i64) a0)] (.s (.own t_string .str k2yo3)) [] :=
  SC_of_run cfgOK (its := [.bool false, .loop (fun _ => (.exit 0, spec_trList_L0X1 k1y0 k1y4 k1y19 k1yo3)), .loop (fun _ => (.exit 6, spec_trList_L3X1 k2y11 k2y52 k2yo3))])
    (ps := [(a0 == (0 : Int)) = false,
      LoopSC cfg.P 1 (lb P_spec_trList 0) (spec_trList_L0a a0 (0 : Int) ([] : List ByteArray)) (.exit 0) (spec_trList_L0X1 k1y0 k1y4 k1y19 k1yo3),
      LoopSC cfg.P 1 (lb P_spec_trList 3) (spec_trList_L3a (1 : Int) k1yo3) (.exit 6) (spec_trList_L3X1 k2y11 k2y52 k2yo3)]) (by kernel_rfl) ⟨(beq_f h1), h2, h3, trivial⟩ get_spec_trList (by decide)

/-! ### slices_Index_string -/


def slices_Index_string_L0a (x0 : (List ByteArray)) (x1 : ByteArray) (x7 : Int) (x8 : Int) : St := mkSt 19 [(0, .s (.v (.sl .str) x0)), (1, .s (.v .str x1)), (7, .s (.v (.int .i64) x7)), (8, .s (.v (.int .i64) x8))] []

def slices_Index_string_L0X1 (y4 : Int) : St := mkSt 19 [(4, .s (.v (.int .i64) y4))] []

def slices_Index_string_L0X2 (y0 : (List ByteArray)) (y1 : ByteArray) (y7 : Int) (y8 : Int) (y9 : Bool) : St := mkSt 19 [(0, .s (.v (.sl .str) y0)), (1, .s (.v .str y1)), (7, .s (.v (.int .i64) y7)), (8, .s (.v (.int .i64) y8)), (9, .s (.v .bool y9))] []

theorem slices_Index_string_L0a_x1 (x0 : (List ByteArray)) (x1 : ByteArray) (x7 : Int) (x8 : Int)
    (h1 : x8 < x7)
    (h2 : 0 ≤ x8)
    (h3 : x8 < (List.length x0 : Int))
    (h4 : x1 = (List.getD x0 (x8).toNat (⟨#[]⟩ : ByteArray))) :
    LoopSC cfg.P 2 (lb P_slices_Index_string 0) (slices_Index_string_L0a x0 x1 x7 x8) (.ret) (slices_Index_string_L0X1 x8) :=
  loop_out cfgOK (f := i_slices_Index_string) (its := [.bool true, .bool true])
    (ps := [decide (x8 < x7) = true,
      0 ≤ x8,
      x8 < (List.length x0 : Int),
      ((x1).toList == ((List.getD x0 (x8).toNat (⟨#[]⟩ : ByteArray))).toList) = true]) (by kernel_rfl) ⟨(decide_eq_true h1), h2, h3, (seq_t h4), trivial⟩ (fun h => by cases h)

theorem slices_Index_string_L0a_i2 (x0 : (List ByteArray)) (x1 : ByteArray) (x7 : Int) (x8 : Int)
    (h1 : x8 < x7)
    (h2 : 0 ≤ x8)
    (h3 : x8 < (List.length x0 : Int))
    (h4 : x1 ≠ (List.getD x0 (x8).toNat (⟨#[]⟩ : ByteArray)))
    {e : AEx} {st : St} (next : LoopSC cfg.P 2 (lb P_slices_Index_string 0) (slices_Index_string_L0a x0 x1 x7 (IntKind.wrap .i64 (x8 + (1 : Int)))) e st) :
    LoopSC cfg.P 2 (lb P_slices_Index_string 0) (slices_Index_string_L0a x0 x1 x7 x8) e st :=
  loop_iter cfgOK (f := i_slices_Index_string) (its := [.bool true, .bool false])
    (ps := [decide (x8 < x7) = true,
      0 ≤ x8,
      x8 < (List.length x0 : Int),
      ((x1).toList == ((List.getD x0 (x8).toNat (⟨#[]⟩ : ByteArray))).toList) = false]) (st1 := slices_Index_string_L0a x0 x1 x7 (IntKind.wrap .i64 (x8 + (1 : Int)))) (by kernel_rfl) ⟨(decide_eq_true h1), h2, h3, (seq_f h4), trivial⟩ next

theorem slices_Index_string_L0a_x3 (x0 : (List ByteArray)) (x1 : ByteArray) (x7 : Int) (x8 : Int)
    (h1 : ¬ (x8 < x7)) :
    LoopSC cfg.P 2 (lb P_slices_Index_string 0) (slices_Index_string_L0a x0 x1 x7 x8) (.exit 0) (slices_Index_string_L0X2 x0 x1 x7 x8 false) :=
  loop_out cfgOK (f := i_slices_Index_string) (its := [.bool false])
    (ps := [decide (x8 < x7) = false]) (by kernel_rfl) ⟨(decide_eq_false h1), trivial⟩ (fun h => by cases h)

theorem slices_Index_string_p1 (a0 : (List ByteArray)) (a1 : ByteArray) (k1y4 : Int)
    (h1 : LoopSC cfg.P 2 (lb P_slices_Index_string 0) (slices_Index_string_L0a a0 a1 ((List.length a0 : Nat) : Int) (0 : Int)) (.ret) (slices_Index_string_L0X1 k1y4)) :
    SC cfg.P i_slices_Index_string [.s (.v (.sl .str) a0), .s (.v .str a1)] (.s (.v (.int .i64) k1y4)) [] :=
  SC_of_run cfgOK (its := [.loop (fun _ => (.ret, slices_Index_string_L0X1 k1y4))])
    (ps := [LoopSC cfg.P 2 (lb P_slices_Index_string 0) (slices_Index_string_L0a a0 a1 ((List.length a0 : Nat) : Int) (0 : Int)) (.ret) (slices_Index_string_L0X1 k1y4)]) (by kernel_rfl) ⟨h1, trivial⟩ get_slices_Index_string (by decide)

theorem slices_Index_string_p2 (a0 : (List ByteArray)) (a1 : ByteArray) (k1y0 : (List ByteArray)) (k1y1 : ByteArray) (k1y7 : Int) (k1y8 : Int) (k1y9 : Bool)
    (h1 : LoopSC cfg.P 2 (lb P_slices_Index_string 0) (slices_Index_string_L0a a0 a1 ((List.length a0 : Nat) : Int) (0 : Int)) (.exit 0) (slices_Index_string_L0X2 k1y0 k1y1 k1y7 k1y8 k1y9)) :
    SC cfg.P i_slices_Index_string [.s (.v (.sl .str) a0), .s (.v .str a1)] (.s (.v (.int .i64) (-1 : Int))) [] :=
  SC_of_run cfgOK (its := [.loop (fun _ => (.exit 0, slices_Index_string_L0X2 k1y0 k1y1 k1y7 k1y8 k1y9))])
    (ps := [LoopSC cfg.P 2 (lb P_slices_Index_string 0) (slices_Index_string_L0a a0 a1 ((List.length a0 : Nat) : Int) (0 : Int)) (.exit 0) (slices_Index_string_L0X2 k1y0 k1y1 k1y7 k1y8 k1y9)]) (by kernel_rfl) ⟨h1, trivial⟩ get_slices_Index_string (by decide)

/-! ### impl_trees -/


def impl_trees_L0a (x0 : Int) (x4 : Int) (xo12 : (List (List ByteArray))) : St := mkSt 64 [(0, .s (.v (.int .i64) x0)), (3, .s (.osl 12 0)), (4, .s (.v (.int .i64) x4))] [(12, .row t_Sstring (.sl .str) xo12 0 false)]

def impl_trees_L1a (x0 : Int) (x4 : Int) (x18 : Int) (x19 : Int) (xo5 : (List ByteArray)) (xo12 : (List (List ByteArray))) : St := mkSt 64 [(0, .s (.v (.int .i64) x0)), (3, .s (.osl 12 0)), (4, .s (.v (.int .i64) x4)), (5, .s (.osl 5 0)), (18, .s (.v (.int .i64) x18)), (19, .s (.v (.int .i64) x19))] [(5, .row t_string .str xo5 0 false), (12, .row t_Sstring (.sl .str) xo12 0 false)]

def impl_trees_L2a (x0 : Int) (x4 : Int) (x6 : Int) (x18 : Int) (x19 : Int) (x25 : (List ByteArray)) (x26 : Int) (x27 : Int) (xo5 : (List ByteArray)) (xo12 : (List (List ByteArray))) : St := mkSt 64 [(0, .s (.v (.int .i64) x0)), (3, .s (.osl 12 0)), (4, .s (.v (.int .i64) x4)), (5, .s (.osl 5 0)), (6, .s (.v (.int .i64) x6)), (18, .s (.v (.int .i64) x18)), (19, .s (.v (.int .i64) x19)), (25, .s (.v (.sl .str) x25)), (26, .s (.v (.int .i64) x26)), (27, .s (.v (.int .i64) x27))] [(5, .row t_string .str xo5 0 false), (12, .row t_Sstring (.sl .str) xo12 0 false)]

def impl_trees_L3a (x0 : Int) (x4 : Int) (x6 : Int) (x8 : ByteArray) (x18 : Int) (x19 : Int) (x25 : (List ByteArray)) (x26 : Int) (x27 : Int) (x37 : (List ByteArray)) (x38 : Int) (x39 : Int) (xo5 : (List ByteArray)) (xo12 : (List (List ByteArray))) : St := mkSt 64 [(0, .s (.v (.int .i64) x0)), (3, .s (.osl 12 0)), (4, .s (.v (.int .i64) x4)), (5, .s (.osl 5 0)), (6, .s (.v (.int .i64) x6)), (8, .s (.v .str x8)), (18, .s (.v (.int .i64) x18)), (19, .s (.v (.int .i64) x19)), (25, .s (.v (.sl .str) x25)), (26, .s (.v (.int .i64) x26)), (27, .s (.v (.int .i64) x27)), (37, .s (.v (.sl .str) x37)), (38, .s (.v (.int .i64) x38)), (39, .s (.v (.int .i64) x39))] [(5, .row t_string .str xo5 0 false), (12, .row t_Sstring (.sl .str) xo12 0 false)]

def impl_trees_L3X1 (y0 : Int) (y4 : Int) (y6 : Int) (y8 : ByteArray) (y18 : Int) (y19 : Int) (y25 : (List ByteArray)) (y26 : Int) (y27 : Int) (y37 : (List ByteArray)) (y38 : Int) (y39 : Int) (y40 : Bool) (yo5 : (List ByteArray)) (yo12 : (List (List ByteArray))) : St := mkSt 64 [(0, .s (.v (.int .i64) y0)), (3, .s (.osl 12 0)), (4, .s (.v (.int .i64) y4)), (5, .s (.osl 5 0)), (6, .s (.v (.int .i64) y6)), (8, .s (.v .str y8)), (18, .s (.v (.int .i64) y18)), (19, .s (.v (.int .i64) y19)), (25, .s (.v (.sl .str) y25)), (26, .s (.v (.int .i64) y26)), (27, .s (.v (.int .i64) y27)), (37, .s (.v (.sl .str) y37)), (38, .s (.v (.int .i64) y38)), (39, .s (.v (.int .i64) y39)), (40, .s (.v .bool y40))] [(5, .row t_string .str yo5 0 false), (12, .row t_Sstring (.sl .str) yo12 0 false)]

def impl_trees_L2X1 (y0 : Int) (y4 : Int) (y6 : Int) (y18 : Int) (y19 : Int) (y25 : (List ByteArray)) (y26 : Int) (y27 : Int) (y28 : Bool) (yo5 : (List ByteArray)) (yo12 : (List (List ByteArray))) : St := mkSt 64 [(0, .s (.v (.int .i64) y0)), (3, .s (.osl 12 0)), (4, .s (.v (.int .i64) y4)), (5, .s (.osl 5 0)), (6, .s (.v (.int .i64) y6)), (18, .s (.v (.int .i64) y18)), (19, .s (.v (.int .i64) y19)), (25, .s (.v (.sl .str) y25)), (26, .s (.v (.int .i64) y26)), (27, .s (.v (.int .i64) y27)), (28, .s (.v .bool y28))] [(5, .row t_string .str yo5 0 false), (12, .row t_Sstring (.sl .str) yo12 0 false)]

def impl_trees_L1X1 (y0 : Int) (y4 : Int) (y18 : Int) (y19 : Int) (y20 : Bool) (yo5 : (List ByteArray)) (yo12 : (List (List ByteArray))) : St := mkSt 64 [(0, .s (.v (.int .i64) y0)), (3, .s (.osl 12 0)), (4, .s (.v (.int .i64) y4)), (5, .s (.osl 5 0)), (18, .s (.v (.int .i64) y18)), (19, .s (.v (.int .i64) y19)), (20, .s (.v .bool y20))] [(5, .row t_string .str yo5 0 false), (12, .row t_Sstring (.sl .str) yo12 0 false)]

def impl_trees_L0X1 (y0 : Int) (y4 : Int) (y15 : Bool) (yo12 : (List (List ByteArray))) : St := mkSt 64 [(0, .s (.v (.int .i64) y0)), (3, .s (.osl 12 0)), (4, .s (.v (.int .i64) y4)), (15, .s (.v .bool y15))] [(12, .row t_Sstring (.sl .str) yo12 0 false)]

theorem impl_trees_L0a_i1 (x0 : Int) (x4 : Int) (xo12 : (List (List ByteArray))) (dk1y0 : Int) (dk1y4 : Int) (dk1y18 : Int) (dk1y19 : Int) (dk1y20 : Bool) (dk1yo5 : (List ByteArray)) (dk1yo12 : (List (List ByteArray))) (dc1o0 : (List ByteArray))
    (h1 : x4 ≤ x0)
    (h2 : LoopSC cfg.P 1 (lb P_impl_trees 1) (impl_trees_L1a x0 x4 x4 (0 : Int) ([] : List ByteArray) xo12) (.exit 2) (impl_trees_L1X1 dk1y0 dk1y4 dk1y18 dk1y19 dk1y20 dk1yo5 dk1yo12))
    (h3 : SC cfg.P i_slices_Sort [.s (.msl t_string .str dk1yo5)] (.tup []) [.row t_string .str dc1o0])
    (h4 : sizeOK (List.length dk1yo12 + List.length ([dc1o0] : List (List ByteArray))))
    {e : AEx} {st : St} (next : LoopSC cfg.P 1 (lb P_impl_trees 0) (impl_trees_L0a dk1y0 (IntKind.wrap .i64 (dk1y4 + (1 : Int))) (dk1yo12 ++ ([dc1o0] : List (List ByteArray)))) e st) :
    LoopSC cfg.P 1 (lb P_impl_trees 0) (impl_trees_L0a x0 x4 xo12) e st :=
  loop_iter cfgOK (f := i_impl_trees) (its := [.bool true, .loop (fun _ => (.exit 2, impl_trees_L1X1 dk1y0 dk1y4 dk1y18 dk1y19 dk1y20 dk1yo5 dk1yo12)), .res (.tup []) [.row t_string .str dc1o0] [0] []])
    (ps := [decide (x4 ≤ x0) = true,
      LoopSC cfg.P 1 (lb P_impl_trees 1) (impl_trees_L1a x0 x4 x4 (0 : Int) ([] : List ByteArray) xo12) (.exit 2) (impl_trees_L1X1 dk1y0 dk1y4 dk1y18 dk1y19 dk1y20 dk1yo5 dk1yo12),
      SC cfg.P i_slices_Sort [.s (.msl t_string .str dk1yo5)] (.tup []) [.row t_string .str dc1o0],
      sizeOK (List.length dk1yo12 + List.length ([dc1o0] : List (List ByteArray)))]) (st1 := impl_trees_L0a dk1y0 (IntKind.wrap .i64 (dk1y4 + (1 : Int))) (dk1yo12 ++ ([dc1o0] : List (List ByteArray)))) (by kernel_rfl) ⟨(decide_eq_true h1), h2, h3, h4, trivial⟩ next

theorem impl_trees_L0a_x2 (x0 : Int) (x4 : Int) (xo12 : (List (List ByteArray)))
    (h1 : ¬ (x4 ≤ x0)) :
    LoopSC cfg.P 1 (lb P_impl_trees 0) (impl_trees_L0a x0 x4 xo12) (.exit 0) (impl_trees_L0X1 x0 x4 false xo12) :=
  loop_out cfgOK (f := i_impl_trees) (its := [.bool false])
    (ps := [decide (x4 ≤ x0) = false]) (by kernel_rfl) ⟨(decide_eq_false h1), trivial⟩ (fun h => by cases h)

theorem impl_trees_L1a_i1 (x0 : Int) (x4 : Int) (x18 : Int) (x19 : Int) (xo5 : (List ByteArray)) (xo12 : (List (List ByteArray))) (dk1y0 : Int) (dk1y4 : Int) (dk1y6 : Int) (dk1y18 : Int) (dk1y19 : Int) (dk1y25 : (List ByteArray)) (dk1y26 : Int) (dk1y27 : Int) (dk1y28 : Bool) (dk1yo5 : (List ByteArray)) (dk1yo12 : (List (List ByteArray)))
    (h1 : x19 < x18)
    (h2 : 0 ≤ x19)
    (h3 : x19 < (List.length xo12 : Int))
    (h4 : (x19).toNat < List.length xo12)
    (h5 : LoopSC cfg.P 1 (lb P_impl_trees 2) (impl_trees_L2a x0 x4 x19 x18 x19 (List.getD xo12 (x19).toNat ([] : List ByteArray)) ((List.length (List.getD xo12 (x19).toNat ([] : List ByteArray)) : Nat) : Int) (0 : Int) xo5 xo12) (.exit 4) (impl_trees_L2X1 dk1y0 dk1y4 dk1y6 dk1y18 dk1y19 dk1y25 dk1y26 dk1y27 dk1y28 dk1yo5 dk1yo12))
    {e : AEx} {st : St} (next : LoopSC cfg.P 1 (lb P_impl_trees 1) (impl_trees_L1a dk1y0 dk1y4 dk1y18 (IntKind.wrap .i64 (dk1y19 + (1 : Int))) dk1yo5 dk1yo12) e st) :
    LoopSC cfg.P 1 (lb P_impl_trees 1) (impl_trees_L1a x0 x4 x18 x19 xo5 xo12) e st :=
  loop_iter cfgOK (f := i_impl_trees) (its := [.bool true, .loop (fun _ => (.exit 4, impl_trees_L2X1 dk1y0 dk1y4 dk1y6 dk1y18 dk1y19 dk1y25 dk1y26 dk1y27 dk1y28 dk1yo5 dk1yo12))])
    (ps := [decide (x19 < x18) = true,
      0 ≤ x19,
      x19 < (List.length xo12 : Int),
      (x19).toNat < List.length xo12,
      LoopSC cfg.P 1 (lb P_impl_trees 2) (impl_trees_L2a x0 x4 x19 x18 x19 (List.getD xo12 (x19).toNat ([] : List ByteArray)) ((List.length (List.getD xo12 (x19).toNat ([] : List ByteArray)) : Nat) : Int) (0 : Int) xo5 xo12) (.exit 4) (impl_trees_L2X1 dk1y0 dk1y4 dk1y6 dk1y18 dk1y19 dk1y25 dk1y26 dk1y27 dk1y28 dk1yo5 dk1yo12)]) (st1 := impl_trees_L1a dk1y0 dk1y4 dk1y18 (IntKind.wrap .i64 (dk1y19 + (1 : Int))) dk1yo5 dk1yo12) (by kernel_rfl) ⟨(decide_eq_true h1), h2, h3, h4, h5, trivial⟩ next

theorem impl_trees_L1a_x2 (x0 : Int) (x4 : Int) (x18 : Int) (x19 : Int) (xo5 : (List ByteArray)) (xo12 : (List (List ByteArray)))
    (h1 : ¬ (x19 < x18)) :
    LoopSC cfg.P 1 (lb P_impl_trees 1) (impl_trees_L1a x0 x4 x18 x19 xo5 xo12) (.exit 2) (impl_trees_L1X1 x0 x4 x18 x19 false xo5 xo12) :=
  loop_out cfgOK (f := i_impl_trees) (its := [.bool false])
    (ps := [decide (x19 < x18) = false]) (by kernel_rfl) ⟨(decide_eq_false h1), trivial⟩ (fun h => by cases h)

theorem impl_trees_L2a_i1 (x0 : Int) (x4 : Int) (x6 : Int) (x18 : Int) (x19 : Int) (x25 : (List ByteArray)) (x26 : Int) (x27 : Int) (xo5 : (List ByteArray)) (xo12 : (List (List ByteArray))) (dk1y0 : Int) (dk1y4 : Int) (dk1y6 : Int) (dk1y8 : ByteArray) (dk1y18 : Int) (dk1y19 : Int) (dk1y25 : (List ByteArray)) (dk1y26 : Int) (dk1y27 : Int) (dk1y37 : (List ByteArray)) (dk1y38 : Int) (dk1y39 : Int) (dk1y40 : Bool) (dk1yo5 : (List ByteArray)) (dk1yo12 : (List (List ByteArray)))
    (h1 : x27 < x26)
    (h2 : 0 ≤ x27)
    (h3 : x27 < (List.length x25 : Int))
    (h4 : 0 ≤ (IntKind.wrap .i64 ((IntKind.wrap .i64 (x4 - (1 : Int))) - x6)))
    (h5 : (IntKind.wrap .i64 ((IntKind.wrap .i64 (x4 - (1 : Int))) - x6)) < (List.length xo12 : Int))
    (h6 : ((IntKind.wrap .i64 ((IntKind.wrap .i64 (x4 - (1 : Int))) - x6))).toNat < List.length xo12)
    (h7 : LoopSC cfg.P 1 (lb P_impl_trees 3) (impl_trees_L3a x0 x4 x6 (List.getD x25 (x27).toNat (⟨#[]⟩ : ByteArray)) x18 x19 x25 x26 x27 (List.getD xo12 ((IntKind.wrap .i64 ((IntKind.wrap .i64 (x4 - (1 : Int))) - x6))).toNat ([] : List ByteArray)) ((List.length (List.getD xo12 ((IntKind.wrap .i64 ((IntKind.wrap .i64 (x4 - (1 : Int))) - x6))).toNat ([] : List ByteArray)) : Nat) : Int) (0 : Int) xo5 xo12) (.exit 6) (impl_trees_L3X1 dk1y0 dk1y4 dk1y6 dk1y8 dk1y18 dk1y19 dk1y25 dk1y26 dk1y27 dk1y37 dk1y38 dk1y39 dk1y40 dk1yo5 dk1yo12))
    {e : AEx} {st : St} (next : LoopSC cfg.P 1 (lb P_impl_trees 2) (impl_trees_L2a dk1y0 dk1y4 dk1y6 dk1y18 dk1y19 dk1y25 dk1y26 (IntKind.wrap .i64 (dk1y27 + (1 : Int))) dk1yo5 dk1yo12) e st) :
    LoopSC cfg.P 1 (lb P_impl_trees 2) (impl_trees_L2a x0 x4 x6 x18 x19 x25 x26 x27 xo5 xo12) e st :=
  loop_iter cfgOK (f := i_impl_trees) (its := [.bool true, .loop (fun _ => (.exit 6, impl_trees_L3X1 dk1y0 dk1y4 dk1y6 dk1y8 dk1y18 dk1y19 dk1y25 dk1y26 dk1y27 dk1y37 dk1y38 dk1y39 dk1y40 dk1yo5 dk1yo12))])
    (ps := [decide (x27 < x26) = true,
      0 ≤ x27,
      x27 < (List.length x25 : Int),
      0 ≤ (IntKind.wrap .i64 ((IntKind.wrap .i64 (x4 - (1 : Int))) - x6)),
      (IntKind.wrap .i64 ((IntKind.wrap .i64 (x4 - (1 : Int))) - x6)) < (List.length xo12 : Int),
      ((IntKind.wrap .i64 ((IntKind.wrap .i64 (x4 - (1 : Int))) - x6))).toNat < List.length xo12,
      LoopSC cfg.P 1 (lb P_impl_trees 3) (impl_trees_L3a x0 x4 x6 (List.getD x25 (x27).toNat (⟨#[]⟩ : ByteArray)) x18 x19 x25 x26 x27 (List.getD xo12 ((IntKind.wrap .i64 ((IntKind.wrap .i64 (x4 - (1 : Int))) - x6))).toNat ([] : List ByteArray)) ((List.length (List.getD xo12 ((IntKind.wrap .i64 ((IntKind.wrap .i64 (x4 - (1 : Int))) - x6))).toNat ([] : List ByteArray)) : Nat) : Int) (0 : Int) xo5 xo12) (.exit 6) (impl_trees_L3X1 dk1y0 dk1y4 dk1y6 dk1y8 dk1y18 dk1y19 dk1y25 dk1y26 dk1y27 dk1y37 dk1y38 dk1y39 dk1y40 dk1yo5 dk1yo12)]) (st1 := impl_trees_L2a dk1y0 dk1y4 dk1y6 dk1y18 dk1y19 dk1y25 dk1y26 (IntKind.wrap .i64 (dk1y27 + (1 : Int))) dk1yo5 dk1yo12) (by kernel_rfl) ⟨(decide_eq_true h1), h2, h3, h4, h5, h6, h7, trivial⟩ next

theorem impl_trees_L2a_x2 (x0 : Int) (x4 : Int) (x6 : Int) (x18 : Int) (x19 : Int) (x25 : (List ByteArray)) (x26 : Int) (x27 : Int) (xo5 : (List ByteArray)) (xo12 : (List (List ByteArray)))
    (h1 : ¬ (x27 < x26)) :
    LoopSC cfg.P 1 (lb P_impl_trees 2) (impl_trees_L2a x0 x4 x6 x18 x19 x25 x26 x27 xo5 xo12) (.exit 4) (impl_trees_L2X1 x0 x4 x6 x18 x19 x25 x26 x27 false xo5 xo12) :=
  loop_out cfgOK (f := i_impl_trees) (its := [.bool false])
    (ps := [decide (x27 < x26) = false]) (by kernel_rfl) ⟨(decide_eq_false h1), trivial⟩ (fun h => by cases h)

theorem impl_trees_L3a_i1 (x0 : Int) (x4 : Int) (x6 : Int) (x8 : ByteArray) (x18 : Int) (x19 : Int) (x25 : (List ByteArray)) (x26 : Int) (x27 : Int) (x37 : (List ByteArray)) (x38 : Int) (x39 : Int) (xo5 : (List ByteArray)) (xo12 : (List (List ByteArray)))
    (h1 : x39 < x38)
    (h2 : 0 ≤ x39)
    (h3 : x39 < (List.length x37 : Int))
    (h4 : ((⟨#[40]⟩ : ByteArray)).size + (x8).size ≤ 2 ^ 62)
    (h5 : (((⟨#[40]⟩ : ByteArray) ++ x8)).size + ((List.getD x37 (x39).toNat (⟨#[]⟩ : ByteArray))).size ≤ 2 ^ 62)
    (h6 : ((((⟨#[40]⟩ : ByteArray) ++ x8) ++ (List.getD x37 (x39).toNat (⟨#[]⟩ : ByteArray)))).size + ((⟨#[41]⟩ : ByteArray)).size ≤ 2 ^ 62)
    (h7 : sizeOK (List.length xo5 + List.length ([((((⟨#[40]⟩ : ByteArray) ++ x8) ++ (List.getD x37 (x39).toNat (⟨#[]⟩ : ByteArray))) ++ (⟨#[41]⟩ : ByteArray))] : List ByteArray)))
    {e : AEx} {st : St} (next : LoopSC cfg.P 1 (lb P_impl_trees 3) (impl_trees_L3a x0 x4 x6 x8 x18 x19 x25 x26 x27 x37 x38 (IntKind.wrap .i64 (x39 + (1 : Int))) (xo5 ++ ([((((⟨#[40]⟩ : ByteArray) ++ x8) ++ (List.getD x37 (x39).toNat (⟨#[]⟩ : ByteArray))) ++ (⟨#[41]⟩ : ByteArray))] : List ByteArray)) xo12) e st) :
    LoopSC cfg.P 1 (lb P_impl_trees 3) (impl_trees_L3a x0 x4 x6 x8 x18 x19 x25 x26 x27 x37 x38 x39 xo5 xo12) e st :=
  loop_iter cfgOK (f := i_impl_trees) (its := [.bool true])
    (ps := [decide (x39 < x38) = true,
      0 ≤ x39,
      x39 < (List.length x37 : Int),
      ((⟨#[40]⟩ : ByteArray)).size + (x8).size ≤ 2 ^ 62,
      (((⟨#[40]⟩ : ByteArray) ++ x8)).size + ((List.getD x37 (x39).toNat (⟨#[]⟩ : ByteArray))).size ≤ 2 ^ 62,
      ((((⟨#[40]⟩ : ByteArray) ++ x8) ++ (List.getD x37 (x39).toNat (⟨#[]⟩ : ByteArray)))).size + ((⟨#[41]⟩ : ByteArray)).size ≤ 2 ^ 62,
      sizeOK (List.length xo5 + List.length ([((((⟨#[40]⟩ : ByteArray) ++ x8) ++ (List.getD x37 (x39).toNat (⟨#[]⟩ : ByteArray))) ++ (⟨#[41]⟩ : ByteArray))] : List ByteArray))]) (st1 := impl_trees_L3a x0 x4 x6 x8 x18 x19 x25 x26 x27 x37 x38 (IntKind.wrap .i64 (x39 + (1 : Int))) (xo5 ++ ([((((⟨#[40]⟩ : ByteArray) ++ x8) ++ (List.getD x37 (x39).toNat (⟨#[]⟩ : ByteArray))) ++ (⟨#[41]⟩ : ByteArray))] : List ByteArray)) xo12) (by kernel_rfl) ⟨(decide_eq_true h1), h2, h3, h4, h5, h6, h7, trivial⟩ next

theorem impl_trees_L3a_x2 (x0 : Int) (x4 : Int) (x6 : Int) (x8 : ByteArray) (x18 : Int) (x19 : Int) (x25 : (List ByteArray)) (x26 : Int) (x27 : Int) (x37 : (List ByteArray)) (x38 : Int) (x39 : Int) (xo5 : (List ByteArray)) (xo12 : (List (List ByteArray)))
    (h1 : ¬ (x39 < x38)) :
    LoopSC cfg.P 1 (lb P_impl_trees 3) (impl_trees_L3a x0 x4 x6 x8 x18 x19 x25 x26 x27 x37 x38 x39 xo5 xo12) (.exit 6) (impl_trees_L3X1 x0 x4 x6 x8 x18 x19 x25 x26 x27 x37 x38 x39 false xo5 xo12) :=
  loop_out cfgOK (f := i_impl_trees) (its := [.bool false])
    (ps := [decide (x39 < x38) = false]) (by kernel_rfl) ⟨(decide_eq_false h1), trivial⟩ (fun h => by cases h)

theorem impl_trees_p1 (a0 : Int) (k1y0 : Int) (k1y4 : Int) (k1y15 : Bool) (k1yo12 : (List (List ByteArray)))
    (h1 : LoopSC cfg.P 1 (lb P_impl_trees 0) (impl_trees_L0a a0 (1 : Int) ([([(⟨#[46]⟩ : ByteArray)] : List ByteArray)] : List (List ByteArray))) (.exit 0) (impl_trees_L0X1 k1y0 k1y4 k1y15 k1yo12))
    (h2 : 0 ≤ k1y0)
    (h3 : k1y0 < (List.length k1yo12 : Int))
    (h4 : (k1y0).toNat < List.length k1yo12) :
    SC cfg.P i_impl_trees [.s (.v (.int .i64) a0)] (.s (.v (.sl .str) (List.getD k1yo12 (k1y0).toNat ([] : List ByteArray)))) [] :=
  SC_of_run cfgOK (its := [.loop (fun _ => (.exit 0, impl_trees_L0X1 k1y0 k1y4 k1y15 k1yo12))])
    (ps := [LoopSC cfg.P 1 (lb P_impl_trees 0) (impl_trees_L0a a0 (1 : Int) ([([(⟨#[46]⟩ : ByteArray)] : List ByteArray)] : List (List ByteArray))) (.exit 0) (impl_trees_L0X1 k1y0 k1y4 k1y15 k1yo12),
      0 ≤ k1y0,
      k1y0 < (List.length k1yo12 : Int),
      (k1y0).toNat < List.length k1yo12]) (by kernel_rfl) ⟨h1, h2, h3, h4, trivial⟩ get_impl_trees (by decide)

end Go.AI
