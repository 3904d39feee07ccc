/- A part of the road: what it proves stands in its last texts. -/
import Derived.Test.YtdfllkeekehplaaSIds
import Derived.Test.YtdfllkeekehplaaProg
set_option autoImplicit false
set_option maxRecDepth 100000
set_option linter.unusedVariables false
namespace Go.AI
open Go.Proofs

/-! ### spec_DrawJoinTrees -/


theorem spec_DrawJoinTrees_p1 (a0 : (List Int)) (c1 : ByteArray) (c1o0 : ((List Int) × (Int × Int))) (c2 : ByteArray) (c2o0 : ((List Int) × (Int × Int)))
    (h1 : SC cfg.P i_spec_l1Cur_tree [.s (.mbx (.pr (.sl (.int .u8)) (.pr (.int .i64) (.int .u64))) (a0, ((0 : Int), (0 : Int)))), .s (.v (.int .i64) (6 : Int))] (.s (.v .str c1)) [.box (.pr (.sl (.int .u8)) (.pr (.int .i64) (.int .u64))) c1o0])
    (h2 : SC cfg.P i_spec_l1Cur_tree [.s (.mbx (.pr (.sl (.int .u8)) (.pr (.int .i64) (.int .u64))) c1o0), .s (.v (.int .i64) (6 : Int))] (.s (.v .str c2)) [.box (.pr (.sl (.int .u8)) (.pr (.int .i64) (.int .u64))) c2o0]) :
    SC cfg.P i_spec_DrawJoinTrees [.s (.v (.sl (.int .u8)) a0)] (.tup [.v .str c1, .v .str c2]) [] :=
  SC_of_run cfgOK (its := [.res (.s (.v .str c1)) [.box (.pr (.sl (.int .u8)) (.pr (.int .i64) (.int .u64))) c1o0] [] [], .res (.s (.v .str c2)) [.box (.pr (.sl (.int .u8)) (.pr (.int .i64) (.int .u64))) c2o0] [] []])
    (ps := [SC cfg.P i_spec_l1Cur_tree [.s (.mbx (.pr (.sl (.int .u8)) (.pr (.int .i64) (.int .u64))) (a0, ((0 : Int), (0 : Int)))), .s (.v (.int .i64) (6 : Int))] (.s (.v .str c1)) [.box (.pr (.sl (.int .u8)) (.pr (.int .i64) (.int .u64))) c1o0],
      SC cfg.P i_spec_l1Cur_tree [.s (.mbx (.pr (.sl (.int .u8)) (.pr (.int .i64) (.int .u64))) c1o0), .s (.v (.int .i64) (6 : Int))] (.s (.v .str c2)) [.box (.pr (.sl (.int .u8)) (.pr (.int .i64) (.int .u64))) c2o0]]) (by kernel_rfl) ⟨h1, h2, trivial⟩ get_spec_DrawJoinTrees (by decide)

/-! ### spec_DrawIsPartOf -/


def spec_DrawIsPartOf_L0a (x5 : ByteArray) (x6 : ByteArray) (x7 : Int) (xo10 : ((List Int) × (Int × Int))) : St := mkSt 39 [(4, .s (.adr 10 none)), (5, .s (.v .str x5)), (6, .s (.v .str x6)), (7, .s (.v (.int .i64) x7))] [(10, .box (.pr (.sl (.int .u8)) (.pr (.int .i64) (.int .u64))) xo10 false)]

def spec_DrawIsPartOf_L0X1 (y5 : ByteArray) (y6 : ByteArray) (y7 : Int) (y27 : Bool) (yo10 : ((List Int) × (Int × Int))) : St := mkSt 39 [(4, .s (.adr 10 none)), (5, .s (.v .str y5)), (6, .s (.v .str y6)), (7, .s (.v (.int .i64) y7)), (27, .s (.v .bool y27))] [(10, .box (.pr (.sl (.int .u8)) (.pr (.int .i64) (.int .u64))) yo10 false)]

theorem spec_DrawIsPartOf_L0a_i1 (x5 : ByteArray) (x6 : ByteArray) (x7 : Int) (xo10 : ((List Int) × (Int × Int))) (dc1 : Int) (dc2 : Int) (dc2o0 : ((List Int) × (Int × Int))) (dc3 : ByteArray)
    (h1 : x7 > (0 : Int))
    (h2 : SC cfg.P i_spec_trCarets [.s (.v .str x6)] (.s (.v (.int .i64) dc1)) [])
    (h3 : SC cfg.P i_spec_l1Cur_pick [.s (.mbx (.pr (.sl (.int .u8)) (.pr (.int .i64) (.int .u64))) xo10), .s (.v (.int .i64) (IntKind.wrap .i64 (dc1 + (1 : Int))))] (.s (.v (.int .i64) dc2)) [.box (.pr (.sl (.int .u8)) (.pr (.int .i64) (.int .u64))) dc2o0])
    (h4 : SC cfg.P i_spec_trGraft [.s (.v .str x6), .s (.v (.int .i64) dc2), .s (.v .str (⟨#[40, 46, 46, 41]⟩ : ByteArray))] (.s (.v .str dc3)) [])
    {e : AEx} {st : St} (next : LoopSC cfg.P 1 (lb P_spec_DrawIsPartOf 0) (spec_DrawIsPartOf_L0a x5 dc3 (IntKind.wrap .i64 (x7 - (1 : Int))) dc2o0) e st) :
    LoopSC cfg.P 1 (lb P_spec_DrawIsPartOf 0) (spec_DrawIsPartOf_L0a x5 x6 x7 xo10) e st :=
  loop_iter cfgOK (f := i_spec_DrawIsPartOf) (its := [.bool true, .res (.s (.v (.int .i64) dc1)) [] [] [], .res (.s (.v (.int .i64) dc2)) [.box (.pr (.sl (.int .u8)) (.pr (.int .i64) (.int .u64))) dc2o0] [] [], .res (.s (.v .str dc3)) [] [] []])
    (ps := [decide (x7 > (0 : Int)) = true,
      SC cfg.P i_spec_trCarets [.s (.v .str x6)] (.s (.v (.int .i64) dc1)) [],
      SC cfg.P i_spec_l1Cur_pick [.s (.mbx (.pr (.sl (.int .u8)) (.pr (.int .i64) (.int .u64))) xo10), .s (.v (.int .i64) (IntKind.wrap .i64 (dc1 + (1 : Int))))] (.s (.v (.int .i64) dc2)) [.box (.pr (.sl (.int .u8)) (.pr (.int .i64) (.int .u64))) dc2o0],
      SC cfg.P i_spec_trGraft [.s (.v .str x6), .s (.v (.int .i64) dc2), .s (.v .str (⟨#[40, 46, 46, 41]⟩ : ByteArray))] (.s (.v .str dc3)) []]) (st1 := spec_DrawIsPartOf_L0a x5 dc3 (IntKind.wrap .i64 (x7 - (1 : Int))) dc2o0) (by kernel_rfl) ⟨(decide_eq_true h1), h2, h3, h4, trivial⟩ next

theorem spec_DrawIsPartOf_L0a_x2 (x5 : ByteArray) (x6 : ByteArray) (x7 : Int) (xo10 : ((List Int) × (Int × Int)))
    (h1 : ¬ (x7 > (0 : Int))) :
    LoopSC cfg.P 1 (lb P_spec_DrawIsPartOf 0) (spec_DrawIsPartOf_L0a x5 x6 x7 xo10) (.exit 0) (spec_DrawIsPartOf_L0X1 x5 x6 x7 false xo10) :=
  loop_out cfgOK (f := i_spec_DrawIsPartOf) (its := [.bool false])
    (ps := [decide (x7 > (0 : Int)) = false]) (by kernel_rfl) ⟨(decide_eq_false h1), trivial⟩ (fun h => by cases h)

theorem spec_DrawIsPartOf_p1 (a0 : (List Int)) (c1 : ByteArray) (c1o0 : ((List Int) × (Int × Int))) (c3o0 : ((List Int) × (Int × Int))) (c4 : ByteArray) (c4o0 : ((List Int) × (Int × Int)))
    (h1 : SC cfg.P i_spec_l1Cur_tree [.s (.mbx (.pr (.sl (.int .u8)) (.pr (.int .i64) (.int .u64))) (a0, ((0 : Int), (0 : Int)))), .s (.v (.int .i64) (4 : Int))] (.s (.v .str c1)) [.box (.pr (.sl (.int .u8)) (.pr (.int .i64) (.int .u64))) c1o0])
    (h2 : SC cfg.P i_spec_trIs [.s (.v .str c1)] (.s (.v .bool true)) [])
    (h3 : SC cfg.P i_spec_l1Cur_one [.s (.mbx (.pr (.sl (.int .u8)) (.pr (.int .i64) (.int .u64))) c1o0), .s (.v (.int .i64) (3 : Int))] (.s (.v .bool true)) [.box (.pr (.sl (.int .u8)) (.pr (.int .i64) (.int .u64))) c3o0])
    (h4 : SC cfg.P i_spec_l1Cur_tree [.s (.mbx (.pr (.sl (.int .u8)) (.pr (.int .i64) (.int .u64))) c3o0), .s (.v (.int .i64) (6 : Int))] (.s (.v .str c4)) [.box (.pr (.sl (.int .u8)) (.pr (.int .i64) (.int .u64))) c4o0]) :
    SC cfg.P i_spec_DrawIsPartOf [.s (.v (.sl (.int .u8)) a0)] (.tup [.v .str c1, .v .str c4]) [] :=
  SC_of_run cfgOK (its := [.res (.s (.v .str c1)) [.box (.pr (.sl (.int .u8)) (.pr (.int .i64) (.int .u64))) c1o0] [] [], .res (.s (.v .bool true)) [] [] [], .res (.s (.v .bool true)) [.box (.pr (.sl (.int .u8)) (.pr (.int .i64) (.int .u64))) c3o0] [] [], .res (.s (.v .str c4)) [.box (.pr (.sl (.int .u8)) (.pr (.int .i64) (.int .u64))) c4o0] [] []])
    (ps := [SC cfg.P i_spec_l1Cur_tree [.s (.mbx (.pr (.sl (.int .u8)) (.pr (.int .i64) (.int .u64))) (a0, ((0 : Int), (0 : Int)))), .s (.v (.int .i64) (4 : Int))] (.s (.v .str c1)) [.box (.pr (.sl (.int .u8)) (.pr (.int .i64) (.int .u64))) c1o0],
      SC cfg.P i_spec_trIs [.s (.v .str c1)] (.s (.v .bool true)) [],
      SC cfg.P i_spec_l1Cur_one [.s (.mbx (.pr (.sl (.int .u8)) (.pr (.int .i64) (.int .u64))) c1o0), .s (.v (.int .i64) (3 : Int))] (.s (.v .bool true)) [.box (.pr (.sl (.int .u8)) (.pr (.int .i64) (.int .u64))) c3o0],
      SC cfg.P i_spec_l1Cur_tree [.s (.mbx (.pr (.sl (.int .u8)) (.pr (.int .i64) (.int .u64))) c3o0), .s (.v (.int .i64) (6 : Int))] (.s (.v .str c4)) [.box (.pr (.sl (.int .u8)) (.pr (.int .i64) (.int .u64))) c4o0]]) (by kernel_rfl) ⟨h1, h2, h3, h4, trivial⟩ get_spec_DrawIsPartOf (by decide)

theorem spec_DrawIsPartOf_p2 (a0 : (List Int)) (c1 : ByteArray) (c1o0 : ((List Int) × (Int × Int))) (c3o0 : ((List Int) × (Int × Int))) (c4 : Int) (c4o0 : ((List Int) × (Int × Int))) (k1y5 : ByteArray) (k1y6 : ByteArray) (k1y7 : Int) (k1y27 : Bool) (k1yo10 : ((List Int) × (Int × Int)))
    (h1 : SC cfg.P i_spec_l1Cur_tree [.s (.mbx (.pr (.sl (.int .u8)) (.pr (.int .i64) (.int .u64))) (a0, ((0 : Int), (0 : Int)))), .s (.v (.int .i64) (4 : Int))] (.s (.v .str c1)) [.box (.pr (.sl (.int .u8)) (.pr (.int .i64) (.int .u64))) c1o0])
    (h2 : SC cfg.P i_spec_trIs [.s (.v .str c1)] (.s (.v .bool true)) [])
    (h3 : SC cfg.P i_spec_l1Cur_one [.s (.mbx (.pr (.sl (.int .u8)) (.pr (.int .i64) (.int .u64))) c1o0), .s (.v (.int .i64) (3 : Int))] (.s (.v .bool false)) [.box (.pr (.sl (.int .u8)) (.pr (.int .i64) (.int .u64))) c3o0])
    (h4 : SC cfg.P i_spec_l1Cur_pick [.s (.mbx (.pr (.sl (.int .u8)) (.pr (.int .i64) (.int .u64))) c3o0), .s (.v (.int .i64) (4 : Int))] (.s (.v (.int .i64) c4)) [.box (.pr (.sl (.int .u8)) (.pr (.int .i64) (.int .u64))) c4o0])
    (h5 : LoopSC cfg.P 1 (lb P_spec_DrawIsPartOf 0) (spec_DrawIsPartOf_L0a c1 c1 c4 c4o0) (.exit 0) (spec_DrawIsPartOf_L0X1 k1y5 k1y6 k1y7 k1y27 k1yo10)) :
    SC cfg.P i_spec_DrawIsPartOf [.s (.v (.sl (.int .u8)) a0)] (.tup [.v .str k1y5, .v .str k1y6]) [] :=
  SC_of_run cfgOK (its := [.res (.s (.v .str c1)) [.box (.pr (.sl (.int .u8)) (.pr (.int .i64) (.int .u64))) c1o0] [] [], .res (.s (.v .bool true)) [] [] [], .res (.s (.v .bool false)) [.box (.pr (.sl (.int .u8)) (.pr (.int .i64) (.int .u64))) c3o0] [] [], .res (.s (.v (.int .i64) c4)) [.box (.pr (.sl (.int .u8)) (.pr (.int .i64) (.int .u64))) c4o0] [] [], .loop (fun _ => (.exit 0, spec_DrawIsPartOf_L0X1 k1y5 k1y6 k1y7 k1y27 k1yo10))])
    (ps := [SC cfg.P i_spec_l1Cur_tree [.s (.mbx (.pr (.sl (.int .u8)) (.pr (.int .i64) (.int .u64))) (a0, ((0 : Int), (0 : Int)))), .s (.v (.int .i64) (4 : Int))] (.s (.v .str c1)) [.box (.pr (.sl (.int .u8)) (.pr (.int .i64) (.int .u64))) c1o0],
      SC cfg.P i_spec_trIs [.s (.v .str c1)] (.s (.v .bool true)) [],
      SC cfg.P i_spec_l1Cur_one [.s (.mbx (.pr (.sl (.int .u8)) (.pr (.int .i64) (.int .u64))) c1o0), .s (.v (.int .i64) (3 : Int))] (.s (.v .bool false)) [.box (.pr (.sl (.int .u8)) (.pr (.int .i64) (.int .u64))) c3o0],
      SC cfg.P i_spec_l1Cur_pick [.s (.mbx (.pr (.sl (.int .u8)) (.pr (.int .i64) (.int .u64))) c3o0), .s (.v (.int .i64) (4 : Int))] (.s (.v (.int .i64) c4)) [.box (.pr (.sl (.int .u8)) (.pr (.int .i64) (.int .u64))) c4o0],
      LoopSC cfg.P 1 (lb P_spec_DrawIsPartOf 0) (spec_DrawIsPartOf_L0a c1 c1 c4 c4o0) (.exit 0) (spec_DrawIsPartOf_L0X1 k1y5 k1y6 k1y7 k1y27 k1yo10)]) (by kernel_rfl) ⟨h1, h2, h3, h4, h5, trivial⟩ get_spec_DrawIsPartOf (by decide)

theorem spec_DrawIsPartOf_p3 (a0 : (List Int)) (c1 : ByteArray) (c1o0 : ((List Int) × (Int × Int))) (c3 : ByteArray) (c3o0 : ((List Int) × (Int × Int)))
    (h1 : SC cfg.P i_spec_l1Cur_tree [.s (.mbx (.pr (.sl (.int .u8)) (.pr (.int .i64) (.int .u64))) (a0, ((0 : Int), (0 : Int)))), .s (.v (.int .i64) (4 : Int))] (.s (.v .str c1)) [.box (.pr (.sl (.int .u8)) (.pr (.int .i64) (.int .u64))) c1o0])
    (h2 : SC cfg.P i_spec_trIs [.s (.v .str c1)] (.s (.v .bool false)) [])
    (h3 : SC cfg.P i_spec_l1Cur_tree [.s (.mbx (.pr (.sl (.int .u8)) (.pr (.int .i64) (.int .u64))) c1o0), .s (.v (.int .i64) (6 : Int))] (.s (.v .str c3)) [.box (.pr (.sl (.int .u8)) (.pr (.int .i64) (.int .u64))) c3o0]) :
    SC cfg.P i_spec_DrawIsPartOf [.s (.v (.sl (.int .u8)) a0)] (.tup [.v .str c1, .v .str c3]) [] :=
  SC_of_run cfgOK (its := [.res (.s (.v .str c1)) [.box (.pr (.sl (.int .u8)) (.pr (.int .i64) (.int .u64))) c1o0] [] [], .res (.s (.v .bool false)) [] [] [], .res (.s (.v .str c3)) [.box (.pr (.sl (.int .u8)) (.pr (.int .i64) (.int .u64))) c3o0] [] []])
    (ps := [SC cfg.P i_spec_l1Cur_tree [.s (.mbx (.pr (.sl (.int .u8)) (.pr (.int .i64) (.int .u64))) (a0, ((0 : Int), (0 : Int)))), .s (.v (.int .i64) (4 : Int))] (.s (.v .str c1)) [.box (.pr (.sl (.int .u8)) (.pr (.int .i64) (.int .u64))) c1o0],
      SC cfg.P i_spec_trIs [.s (.v .str c1)] (.s (.v .bool false)) [],
      SC cfg.P i_spec_l1Cur_tree [.s (.mbx (.pr (.sl (.int .u8)) (.pr (.int .i64) (.int .u64))) c1o0), .s (.v (.int .i64) (6 : Int))] (.s (.v .str c3)) [.box (.pr (.sl (.int .u8)) (.pr (.int .i64) (.int .u64))) c3o0]]) (by kernel_rfl) ⟨h1, h2, h3, trivial⟩ get_spec_DrawIsPartOf (by decide)

/-! ### spec_DrawSubtreeAt -/


theorem spec_DrawSubtreeAt_p1 (a0 : (List Int)) (c1 : ByteArray) (c1o0 : ((List Int) × (Int × Int))) (c3o0 : ((List Int) × (Int × Int))) (c4 : ByteArray) (c4o0 : ((List Int) × (Int × Int)))
    (h1 : SC cfg.P i_spec_l1Cur_tree [.s (.mbx (.pr (.sl (.int .u8)) (.pr (.int .i64) (.int .u64))) (a0, ((0 : Int), (0 : Int)))), .s (.v (.int .i64) (7 : Int))] (.s (.v .str c1)) [.box (.pr (.sl (.int .u8)) (.pr (.int .i64) (.int .u64))) c1o0])
    (h2 : SC cfg.P i_spec_trIs [.s (.v .str c1)] (.s (.v .bool true)) [])
    (h3 : SC cfg.P i_spec_l1Cur_one [.s (.mbx (.pr (.sl (.int .u8)) (.pr (.int .i64) (.int .u64))) c1o0), .s (.v (.int .i64) (5 : Int))] (.s (.v .bool true)) [.box (.pr (.sl (.int .u8)) (.pr (.int .i64) (.int .u64))) c3o0])
    (h4 : SC cfg.P i_spec_l1Cur_of [.s (.mbx (.pr (.sl (.int .u8)) (.pr (.int .i64) (.int .u64))) c3o0), .s (.v (.sl .str) ([(⟨#[]⟩ : ByteArray), (⟨#[48]⟩ : ByteArray), (⟨#[49]⟩ : ByteArray), (⟨#[48, 48]⟩ : ByteArray), (⟨#[49, 48]⟩ : ByteArray), (⟨#[50]⟩ : ByteArray), (⟨#[48, 120]⟩ : ByteArray), (⟨#[48, 48, 48, 48, 48, 48, 48, 48, 48, 48]⟩ : ByteArray)] : List ByteArray))] (.s (.v .str c4)) [.box (.pr (.sl (.int .u8)) (.pr (.int .i64) (.int .u64))) c4o0]) :
    SC cfg.P i_spec_DrawSubtreeAt [.s (.v (.sl (.int .u8)) a0)] (.tup [.v .str c1, .v .str c4]) [] :=
  SC_of_run cfgOK (its := [.res (.s (.v .str c1)) [.box (.pr (.sl (.int .u8)) (.pr (.int .i64) (.int .u64))) c1o0] [] [], .res (.s (.v .bool true)) [] [] [], .res (.s (.v .bool true)) [.box (.pr (.sl (.int .u8)) (.pr (.int .i64) (.int .u64))) c3o0] [] [], .res (.s (.v .str c4)) [.box (.pr (.sl (.int .u8)) (.pr (.int .i64) (.int .u64))) c4o0] [] []])
    (ps := [SC cfg.P i_spec_l1Cur_tree [.s (.mbx (.pr (.sl (.int .u8)) (.pr (.int .i64) (.int .u64))) (a0, ((0 : Int), (0 : Int)))), .s (.v (.int .i64) (7 : Int))] (.s (.v .str c1)) [.box (.pr (.sl (.int .u8)) (.pr (.int .i64) (.int .u64))) c1o0],
      SC cfg.P i_spec_trIs [.s (.v .str c1)] (.s (.v .bool true)) [],
      SC cfg.P i_spec_l1Cur_one [.s (.mbx (.pr (.sl (.int .u8)) (.pr (.int .i64) (.int .u64))) c1o0), .s (.v (.int .i64) (5 : Int))] (.s (.v .bool true)) [.box (.pr (.sl (.int .u8)) (.pr (.int .i64) (.int .u64))) c3o0],
      SC cfg.P i_spec_l1Cur_of [.s (.mbx (.pr (.sl (.int .u8)) (.pr (.int .i64) (.int .u64))) c3o0), .s (.v (.sl .str) ([(⟨#[]⟩ : ByteArray), (⟨#[48]⟩ : ByteArray), (⟨#[49]⟩ : ByteArray), (⟨#[48, 48]⟩ : ByteArray), (⟨#[49, 48]⟩ : ByteArray), (⟨#[50]⟩ : ByteArray), (⟨#[48, 120]⟩ : ByteArray), (⟨#[48, 48, 48, 48, 48, 48, 48, 48, 48, 48]⟩ : ByteArray)] : List ByteArray))] (.s (.v .str c4)) [.box (.pr (.sl (.int .u8)) (.pr (.int .i64) (.int .u64))) c4o0]]) (by kernel_rfl) ⟨h1, h2, h3, h4, trivial⟩ get_spec_DrawSubtreeAt (by decide)

theorem spec_DrawSubtreeAt_p2 (a0 : (List Int)) (c1 : ByteArray) (c1o0 : ((List Int) × (Int × Int))) (c3o0 : ((List Int) × (Int × Int))) (c4 : (List ByteArray)) (c5 : Int) (c5o0 : ((List Int) × (Int × Int))) (c6 : Int) (c6o0 : ((List Int) × (Int × Int)))
    (h1 : SC cfg.P i_spec_l1Cur_tree [.s (.mbx (.pr (.sl (.int .u8)) (.pr (.int .i64) (.int .u64))) (a0, ((0 : Int), (0 : Int)))), .s (.v (.int .i64) (7 : Int))] (.s (.v .str c1)) [.box (.pr (.sl (.int .u8)) (.pr (.int .i64) (.int .u64))) c1o0])
    (h2 : SC cfg.P i_spec_trIs [.s (.v .str c1)] (.s (.v .bool true)) [])
    (h3 : SC cfg.P i_spec_l1Cur_one [.s (.mbx (.pr (.sl (.int .u8)) (.pr (.int .i64) (.int .u64))) c1o0), .s (.v (.int .i64) (5 : Int))] (.s (.v .bool false)) [.box (.pr (.sl (.int .u8)) (.pr (.int .i64) (.int .u64))) c3o0])
    (h4 : SC cfg.P i_spec_trAddresses [.s (.v .str c1), .s (.v .str (⟨#[]⟩ : ByteArray))] (.s (.own t_string .str c4)) [])
    (h5 : SC cfg.P i_spec_l1Cur_pick [.s (.mbx (.pr (.sl (.int .u8)) (.pr (.int .i64) (.int .u64))) c3o0), .s (.v (.int .i64) ((List.length c4 : Nat) : Int))] (.s (.v (.int .i64) c5)) [.box (.pr (.sl (.int .u8)) (.pr (.int .i64) (.int .u64))) c5o0])
    (h6 : 0 ≤ c5)
    (h7 : c5 < (List.length c4 : Int))
    (h8 : (c5).toNat < List.length c4)
    (h9 : SC cfg.P i_spec_l1Cur_pick [.s (.mbx (.pr (.sl (.int .u8)) (.pr (.int .i64) (.int .u64))) c5o0), .s (.v (.int .i64) (IntKind.wrap .i64 ((((List.getD c4 (c5).toNat (⟨#[]⟩ : ByteArray))).size : Int) + (1 : Int))))] (.s (.v (.int .i64) c6)) [.box (.pr (.sl (.int .u8)) (.pr (.int .i64) (.int .u64))) c6o0])
    (h10 : 0 ≤ c6)
    (h11 : c6 ≤ (((List.getD c4 (c5).toNat (⟨#[]⟩ : ByteArray))).size : Int)) :
    SC cfg.P i_spec_DrawSubtreeAt [.s (.v (.sl (.int .u8)) a0)] (.tup [.v .str c1, .v .str (ByteArray.extract (List.getD c4 (c5).toNat (⟨#[]⟩ : ByteArray)) ((0 : Int)).toNat (c6).toNat)]) [] :=
  SC_of_run cfgOK (its := [.res (.s (.v .str c1)) [.box (.pr (.sl (.int .u8)) (.pr (.int .i64) (.int .u64))) c1o0] [] [], .res (.s (.v .bool true)) [] [] [], .res (.s (.v .bool false)) [.box (.pr (.sl (.int .u8)) (.pr (.int .i64) (.int .u64))) c3o0] [] [], .res (.s (.own t_string .str c4)) [] [] [25], .res (.s (.v (.int .i64) c5)) [.box (.pr (.sl (.int .u8)) (.pr (.int .i64) (.int .u64))) c5o0] [] [], .res (.s (.v (.int .i64) c6)) [.box (.pr (.sl (.int .u8)) (.pr (.int .i64) (.int .u64))) c6o0] [] []])
    (ps := [SC cfg.P i_spec_l1Cur_tree [.s (.mbx (.pr (.sl (.int .u8)) (.pr (.int .i64) (.int .u64))) (a0, ((0 : Int), (0 : Int)))), .s (.v (.int .i64) (7 : Int))] (.s (.v .str c1)) [.box (.pr (.sl (.int .u8)) (.pr (.int .i64) (.int .u64))) c1o0],
      SC cfg.P i_spec_trIs [.s (.v .str c1)] (.s (.v .bool true)) [],
      SC cfg.P i_spec_l1Cur_one [.s (.mbx (.pr (.sl (.int .u8)) (.pr (.int .i64) (.int .u64))) c1o0), .s (.v (.int .i64) (5 : Int))] (.s (.v .bool false)) [.box (.pr (.sl (.int .u8)) (.pr (.int .i64) (.int .u64))) c3o0],
      SC cfg.P i_spec_trAddresses [.s (.v .str c1), .s (.v .str (⟨#[]⟩ : ByteArray))] (.s (.own t_string .str c4)) [],
      SC cfg.P i_spec_l1Cur_pick [.s (.mbx (.pr (.sl (.int .u8)) (.pr (.int .i64) (.int .u64))) c3o0), .s (.v (.int .i64) ((List.length c4 : Nat) : Int))] (.s (.v (.int .i64) c5)) [.box (.pr (.sl (.int .u8)) (.pr (.int .i64) (.int .u64))) c5o0],
      0 ≤ c5,
      c5 < (List.length c4 : Int),
      (c5).toNat < List.length c4,
      SC cfg.P i_spec_l1Cur_pick [.s (.mbx (.pr (.sl (.int .u8)) (.pr (.int .i64) (.int .u64))) c5o0), .s (.v (.int .i64) (IntKind.wrap .i64 ((((List.getD c4 (c5).toNat (⟨#[]⟩ : ByteArray))).size : Int) + (1 : Int))))] (.s (.v (.int .i64) c6)) [.box (.pr (.sl (.int .u8)) (.pr (.int .i64) (.int .u64))) c6o0],
      0 ≤ c6,
      c6 ≤ (((List.getD c4 (c5).toNat (⟨#[]⟩ : ByteArray))).size : Int)]) (by kernel_rfl) ⟨h1, h2, h3, h4, h5, h6, h7, h8, h9, h10, h11, trivial⟩ get_spec_DrawSubtreeAt (by decide)

theorem spec_DrawSubtreeAt_p3 (a0 : (List Int)) (c1 : ByteArray) (c1o0 : ((List Int) × (Int × Int))) (c3 : ByteArray) (c3o0 : ((List Int) × (Int × Int)))
    (h1 : SC cfg.P i_spec_l1Cur_tree [.s (.mbx (.pr (.sl (.int .u8)) (.pr (.int .i64) (.int .u64))) (a0, ((0 : Int), (0 : Int)))), .s (.v (.int .i64) (7 : Int))] (.s (.v .str c1)) [.box (.pr (.sl (.int .u8)) (.pr (.int .i64) (.int .u64))) c1o0])
    (h2 : SC cfg.P i_spec_trIs [.s (.v .str c1)] (.s (.v .bool false)) [])
    (h3 : SC cfg.P i_spec_l1Cur_of [.s (.mbx (.pr (.sl (.int .u8)) (.pr (.int .i64) (.int .u64))) c1o0), .s (.v (.sl .str) ([(⟨#[]⟩ : ByteArray), (⟨#[48]⟩ : ByteArray), (⟨#[49]⟩ : ByteArray), (⟨#[48, 48]⟩ : ByteArray), (⟨#[49, 48]⟩ : ByteArray), (⟨#[50]⟩ : ByteArray), (⟨#[48, 120]⟩ : ByteArray), (⟨#[48, 48, 48, 48, 48, 48, 48, 48, 48, 48]⟩ : ByteArray)] : List ByteArray))] (.s (.v .str c3)) [.box (.pr (.sl (.int .u8)) (.pr (.int .i64) (.int .u64))) c3o0]) :
    SC cfg.P i_spec_DrawSubtreeAt [.s (.v (.sl (.int .u8)) a0)] (.tup [.v .str c1, .v .str c3]) [] :=
  SC_of_run cfgOK (its := [.res (.s (.v .str c1)) [.box (.pr (.sl (.int .u8)) (.pr (.int .i64) (.int .u64))) c1o0] [] [], .res (.s (.v .bool false)) [] [] [], .res (.s (.v .str c3)) [.box (.pr (.sl (.int .u8)) (.pr (.int .i64) (.int .u64))) c3o0] [] []])
    (ps := [SC cfg.P i_spec_l1Cur_tree [.s (.mbx (.pr (.sl (.int .u8)) (.pr (.int .i64) (.int .u64))) (a0, ((0 : Int), (0 : Int)))), .s (.v (.int .i64) (7 : Int))] (.s (.v .str c1)) [.box (.pr (.sl (.int .u8)) (.pr (.int .i64) (.int .u64))) c1o0],
      SC cfg.P i_spec_trIs [.s (.v .str c1)] (.s (.v .bool false)) [],
      SC cfg.P i_spec_l1Cur_of [.s (.mbx (.pr (.sl (.int .u8)) (.pr (.int .i64) (.int .u64))) c1o0), .s (.v (.sl .str) ([(⟨#[]⟩ : ByteArray), (⟨#[48]⟩ : ByteArray), (⟨#[49]⟩ : ByteArray), (⟨#[48, 48]⟩ : ByteArray), (⟨#[49, 48]⟩ : ByteArray), (⟨#[50]⟩ : ByteArray), (⟨#[48, 120]⟩ : ByteArray), (⟨#[48, 48, 48, 48, 48, 48, 48, 48, 48, 48]⟩ : ByteArray)] : List ByteArray))] (.s (.v .str c3)) [.box (.pr (.sl (.int .u8)) (.pr (.int .i64) (.int .u64))) c3o0]]) (by kernel_rfl) ⟨h1, h2, h3, trivial⟩ get_spec_DrawSubtreeAt (by decide)

/-! ### spec_DrawGraftAt -/


theorem spec_DrawGraftAt_p1 (a0 : (List Int)) (c1 : ByteArray) (c1o0 : ((List Int) × (Int × Int))) (c2 : Int) (c3 : Int) (c3o0 : ((List Int) × (Int × Int))) (c4 : ByteArray) (c4o0 : ((List Int) × (Int × Int)))
    (h1 : SC cfg.P i_spec_l1Cur_tree [.s (.mbx (.pr (.sl (.int .u8)) (.pr (.int .i64) (.int .u64))) (a0, ((0 : Int), (0 : Int)))), .s (.v (.int .i64) (5 : Int))] (.s (.v .str c1)) [.box (.pr (.sl (.int .u8)) (.pr (.int .i64) (.int .u64))) c1o0])
    (h2 : SC cfg.P i_spec_trCarets [.s (.v .str c1)] (.s (.v (.int .i64) c2)) [])
    (h3 : SC cfg.P i_spec_l1Cur_pick [.s (.mbx (.pr (.sl (.int .u8)) (.pr (.int .i64) (.int .u64))) c1o0), .s (.v (.int .i64) (IntKind.wrap .i64 (c2 + (3 : Int))))] (.s (.v (.int .i64) c3)) [.box (.pr (.sl (.int .u8)) (.pr (.int .i64) (.int .u64))) c3o0])
    (h4 : SC cfg.P i_spec_l1Cur_tree [.s (.mbx (.pr (.sl (.int .u8)) (.pr (.int .i64) (.int .u64))) c3o0), .s (.v (.int .i64) (4 : Int))] (.s (.v .str c4)) [.box (.pr (.sl (.int .u8)) (.pr (.int .i64) (.int .u64))) c4o0]) :
    SC cfg.P i_spec_DrawGraftAt [.s (.v (.sl (.int .u8)) a0)] (.tup [.v .str c1, .v (.int .i64) (IntKind.wrap .i64 (c3 - (1 : Int))), .v .str c4]) [] :=
  SC_of_run cfgOK (its := [.res (.s (.v .str c1)) [.box (.pr (.sl (.int .u8)) (.pr (.int .i64) (.int .u64))) c1o0] [] [], .res (.s (.v (.int .i64) c2)) [] [] [], .res (.s (.v (.int .i64) c3)) [.box (.pr (.sl (.int .u8)) (.pr (.int .i64) (.int .u64))) c3o0] [] [], .res (.s (.v .str c4)) [.box (.pr (.sl (.int .u8)) (.pr (.int .i64) (.int .u64))) c4o0] [] []])
    (ps := [SC cfg.P i_spec_l1Cur_tree [.s (.mbx (.pr (.sl (.int .u8)) (.pr (.int .i64) (.int .u64))) (a0, ((0 : Int), (0 : Int)))), .s (.v (.int .i64) (5 : Int))] (.s (.v .str c1)) [.box (.pr (.sl (.int .u8)) (.pr (.int .i64) (.int .u64))) c1o0],
      SC cfg.P i_spec_trCarets [.s (.v .str c1)] (.s (.v (.int .i64) c2)) [],
      SC cfg.P i_spec_l1Cur_pick [.s (.mbx (.pr (.sl (.int .u8)) (.pr (.int .i64) (.int .u64))) c1o0), .s (.v (.int .i64) (IntKind.wrap .i64 (c2 + (3 : Int))))] (.s (.v (.int .i64) c3)) [.box (.pr (.sl (.int .u8)) (.pr (.int .i64) (.int .u64))) c3o0],
      SC cfg.P i_spec_l1Cur_tree [.s (.mbx (.pr (.sl (.int .u8)) (.pr (.int .i64) (.int .u64))) c3o0), .s (.v (.int .i64) (4 : Int))] (.s (.v .str c4)) [.box (.pr (.sl (.int .u8)) (.pr (.int .i64) (.int .u64))) c4o0]]) (by kernel_rfl) ⟨h1, h2, h3, h4, trivial⟩ get_spec_DrawGraftAt (by decide)

/-! ### spec_trAddresses -/


theorem spec_trAddresses_p1 (a0 : ByteArray) (a1 : ByteArray)
    (h1 : SC cfg.P i_spec_trLeaf [.s (.v .str a0)] (.s (.v .bool true)) []) :
    SC cfg.P i_spec_trAddresses [.s (.v .str a0), .s (.v .str a1)] (.s (.own t_string .str ([a1] : List ByteArray))) [] :=
  SC_of_run cfgOK (its := [.res (.s (.v .bool true)) [] [] []])
    (ps := [SC cfg.P i_spec_trLeaf [.s (.v .str a0)] (.s (.v .bool true)) []]) (by kernel_rfl) ⟨h1, trivial⟩ get_spec_trAddresses (by decide)

theorem spec_trAddresses_p2 (a0 : ByteArray) (a1 : ByteArray) (c2a : ByteArray) (c2b : ByteArray) (c3 : (List ByteArray)) (c4 : (List ByteArray))
    (h1 : SC cfg.P i_spec_trLeaf [.s (.v .str a0)] (.s (.v .bool false)) [])
    (h2 : SC cfg.P i_spec_trSides [.s (.v .str a0)] (.tup [.v .str c2a, .v .str c2b]) [])
    (h3 : (a1).size + ((⟨#[48]⟩ : ByteArray)).size ≤ 2 ^ 62)
    (h4 : SC cfg.P i_spec_trAddresses [.s (.v .str c2a), .s (.v .str (a1 ++ (⟨#[48]⟩ : ByteArray)))] (.s (.own t_string .str c3)) [])
    (h5 : (a1).size + ((⟨#[49]⟩ : ByteArray)).size ≤ 2 ^ 62)
    (h6 : SC cfg.P i_spec_trAddresses [.s (.v .str c2b), .s (.v .str (a1 ++ (⟨#[49]⟩ : ByteArray)))] (.s (.own t_string .str c4)) [])
    (h7 : sizeOK (List.length c3 + List.length c4)) :
    SC cfg.P i_spec_trAddresses [.s (.v .str a0), .s (.v .str a1)] (.s (.own t_string .str (c3 ++ c4))) [] :=
  SC_of_run cfgOK (its := [.res (.s (.v .bool false)) [] [] [], .res (.tup [.v .str c2a, .v .str c2b]) [] [] [], .res (.s (.own t_string .str c3)) [] [] [19], .res (.s (.own t_string .str c4)) [] [] [23]])
    (ps := [SC cfg.P i_spec_trLeaf [.s (.v .str a0)] (.s (.v .bool false)) [],
      SC cfg.P i_spec_trSides [.s (.v .str a0)] (.tup [.v .str c2a, .v .str c2b]) [],
      (a1).size + ((⟨#[48]⟩ : ByteArray)).size ≤ 2 ^ 62,
      SC cfg.P i_spec_trAddresses [.s (.v .str c2a), .s (.v .str (a1 ++ (⟨#[48]⟩ : ByteArray)))] (.s (.own t_string .str c3)) [],
      (a1).size + ((⟨#[49]⟩ : ByteArray)).size ≤ 2 ^ 62,
      SC cfg.P i_spec_trAddresses [.s (.v .str c2b), .s (.v .str (a1 ++ (⟨#[49]⟩ : ByteArray)))] (.s (.own t_string .str c4)) [],
      sizeOK (List.length c3 + List.length c4)]) (by kernel_rfl) ⟨h1, h2, h3, h4, h5, h6, h7, trivial⟩ get_spec_trAddresses (by decide)

end Go.AI
