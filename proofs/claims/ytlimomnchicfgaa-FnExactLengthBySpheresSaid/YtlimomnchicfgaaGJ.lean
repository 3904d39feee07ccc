/- A part of the road: what it proves stands in its last texts. -/
import Derived.Test.YtlimomnchicfgaaSIds
import Derived.Test.YtlimomnchicfgaaProg
set_option autoImplicit false
set_option maxRecDepth 100000
set_option linter.unusedVariables false
namespace Go.AI
open Go.Proofs

/-! ### impl_letter -/


theorem impl_letter_p1 (a0 : Int) (c1 : Int) (c2 : (Tr × Tr)) (c3 : (Tr × Tr))
    (h1 : SC cfg.P i_impl_size [.s (.v (.int .i64) a0)] (.s (.v (.int .i64) c1)) [])
    (h2 : SC cfg.P i_impl_generator [.s (.v (.int .i64) (IntKind.wrap .i64 (c1 - (1 : Int))))] (.s (.v (.pr .tree .tree) c2)) [])
    (h3 : a0 < (0 : Int))
    (h4 : SC cfg.P i_impl_pair_inverse [.s (.v (.pr .tree .tree) c2)] (.s (.v (.pr .tree .tree) c3)) []) :
    SC cfg.P i_impl_letter [.s (.v (.int .i64) a0)] (.s (.v (.pr .tree .tree) c3)) [] :=
  SC_of_run cfgOK (its := [.res (.s (.v (.int .i64) c1)) [] [] [], .res (.s (.v (.pr .tree .tree) c2)) [] [] [], .bool true, .res (.s (.v (.pr .tree .tree) c3)) [] [] []])
    (ps := [SC cfg.P i_impl_size [.s (.v (.int .i64) a0)] (.s (.v (.int .i64) c1)) [],
      SC cfg.P i_impl_generator [.s (.v (.int .i64) (IntKind.wrap .i64 (c1 - (1 : Int))))] (.s (.v (.pr .tree .tree) c2)) [],
      decide (a0 < (0 : Int)) = true,
      SC cfg.P i_impl_pair_inverse [.s (.v (.pr .tree .tree) c2)] (.s (.v (.pr .tree .tree) c3)) []]) (by kernel_rfl) ⟨h1, h2, (decide_eq_true h3), h4, trivial⟩ get_impl_letter (by decide)

theorem impl_letter_p2 (a0 : Int) (c1 : Int) (c2 : (Tr × Tr))
    (h1 : SC cfg.P i_impl_size [.s (.v (.int .i64) a0)] (.s (.v (.int .i64) c1)) [])
    (h2 : SC cfg.P i_impl_generator [.s (.v (.int .i64) (IntKind.wrap .i64 (c1 - (1 : Int))))] (.s (.v (.pr .tree .tree) c2)) [])
    (h3 : ¬ (a0 < (0 : Int))) :
    SC cfg.P i_impl_letter [.s (.v (.int .i64) a0)] (.s (.v (.pr .tree .tree) c2)) [] :=
  SC_of_run cfgOK (its := [.res (.s (.v (.int .i64) c1)) [] [] [], .res (.s (.v (.pr .tree .tree) c2)) [] [] [], .bool false])
    (ps := [SC cfg.P i_impl_size [.s (.v (.int .i64) a0)] (.s (.v (.int .i64) c1)) [],
      SC cfg.P i_impl_generator [.s (.v (.int .i64) (IntKind.wrap .i64 (c1 - (1 : Int))))] (.s (.v (.pr .tree .tree) c2)) [],
      decide (a0 < (0 : Int)) = false]) (by kernel_rfl) ⟨h1, h2, (decide_eq_false h3), trivial⟩ get_impl_letter (by decide)

/-! ### spec_wdLetter -/


theorem spec_wdLetter_p1 (a0 : Int) (c1 : (ByteArray × ByteArray)) (c2 : (ByteArray × ByteArray))
    (h1 : a0 < (0 : Int))
    (h2 : SC cfg.P i_spec_prGenerator [.s (.v (.int .i64) (IntKind.wrap .i64 ((IntKind.wrap .i64 (0 - a0)) - (1 : Int))))] (.s (.v (.pr .str .str) c1)) [])
    (h3 : SC cfg.P i_spec_prInverse [.s (.v (.pr .str .str) c1)] (.s (.v (.pr .str .str) c2)) []) :
    SC cfg.P i_spec_wdLetter [.s (.v (.int .i64) a0)] (.s (.v (.pr .str .str) c2)) [] :=
  SC_of_run cfgOK (its := [.bool true, .res (.s (.v (.pr .str .str) c1)) [] [] [], .res (.s (.v (.pr .str .str) c2)) [] [] []])
    (ps := [decide (a0 < (0 : Int)) = true,
      SC cfg.P i_spec_prGenerator [.s (.v (.int .i64) (IntKind.wrap .i64 ((IntKind.wrap .i64 (0 - a0)) - (1 : Int))))] (.s (.v (.pr .str .str) c1)) [],
      SC cfg.P i_spec_prInverse [.s (.v (.pr .str .str) c1)] (.s (.v (.pr .str .str) c2)) []]) (by kernel_rfl) ⟨(decide_eq_true h1), h2, h3, trivial⟩ get_spec_wdLetter (by decide)

theorem spec_wdLetter_p2 (a0 : Int) (c1 : (ByteArray × ByteArray))
    (h1 : ¬ (a0 < (0 : Int)))
    (h2 : SC cfg.P i_spec_prGenerator [.s (.v (.int .i64) (IntKind.wrap .i64 (a0 - (1 : Int))))] (.s (.v (.pr .str .str) c1)) []) :
    SC cfg.P i_spec_wdLetter [.s (.v (.int .i64) a0)] (.s (.v (.pr .str .str) c1)) [] :=
  SC_of_run cfgOK (its := [.bool false, .res (.s (.v (.pr .str .str) c1)) [] [] []])
    (ps := [decide (a0 < (0 : Int)) = false,
      SC cfg.P i_spec_prGenerator [.s (.v (.int .i64) (IntKind.wrap .i64 (a0 - (1 : Int))))] (.s (.v (.pr .str .str) c1)) []]) (by kernel_rfl) ⟨(decide_eq_false h1), h2, trivial⟩ get_spec_wdLetter (by decide)

/-! ### spec_prUnit -/


theorem spec_prUnit_p1 
     :
    SC cfg.P i_spec_prUnit [] (.s (.v (.pr .str .str) ((⟨#[46]⟩ : ByteArray), (⟨#[46]⟩ : ByteArray)))) [] :=
  SC_of_run cfgOK (its := [])
    (ps := []) (by kernel_rfl) trivial get_spec_prUnit (by decide)

/-! ### impl_generator -/


theorem impl_generator_p1 (a0 : Int) (c1 : Tr) (c2 : Tr) (c3 : Tr)
    (h1 : SC cfg.P i_impl_rightComb [.s (.v (.int .i64) a0)] (.s (.v .tree c1)) [])
    (h2 : SC cfg.P i_impl_node_graft [.s (.v .tree c1), .s (.v (.int .i64) a0), .s (.v .tree (Tr.node (Tr.node Tr.leaf Tr.leaf) Tr.leaf))] (.s (.v .tree c2)) [])
    (h3 : SC cfg.P i_impl_rightComb [.s (.v (.int .i64) (IntKind.wrap .i64 (a0 + (2 : Int))))] (.s (.v .tree c3)) []) :
    SC cfg.P i_impl_generator [.s (.v (.int .i64) a0)] (.s (.v (.pr .tree .tree) (c2, c3))) [] :=
  SC_of_run cfgOK (its := [.res (.s (.v .tree c1)) [] [] [], .res (.s (.v .tree c2)) [] [] [], .res (.s (.v .tree c3)) [] [] []])
    (ps := [SC cfg.P i_impl_rightComb [.s (.v (.int .i64) a0)] (.s (.v .tree c1)) [],
      SC cfg.P i_impl_node_graft [.s (.v .tree c1), .s (.v (.int .i64) a0), .s (.v .tree (Tr.node (Tr.node Tr.leaf Tr.leaf) Tr.leaf))] (.s (.v .tree c2)) [],
      SC cfg.P i_impl_rightComb [.s (.v (.int .i64) (IntKind.wrap .i64 (a0 + (2 : Int))))] (.s (.v .tree c3)) []]) (by kernel_rfl) ⟨h1, h2, h3, trivial⟩ get_impl_generator (by decide)

/-! ### impl_size -/


theorem impl_size_p1 (a0 : Int)
     :
    SC cfg.P i_impl_size [.s (.v (.int .i64) a0)] (.s (.v (.int .i64) (maxI a0 (IntKind.wrap .i64 (0 - a0))))) [] :=
  SC_of_run cfgOK (its := [])
    (ps := []) (by kernel_rfl) trivial get_impl_size (by decide)

/-! ### spec_prGenerator -/


theorem spec_prGenerator_p1 (a0 : Int) (c1 : ByteArray) (c2 : ByteArray) (c3 : ByteArray)
    (h1 : SC cfg.P i_spec_trRight [.s (.v (.int .i64) a0)] (.s (.v .str c1)) [])
    (h2 : SC cfg.P i_spec_trGraft [.s (.v .str c1), .s (.v (.int .i64) a0), .s (.v .str (⟨#[40, 40, 46, 46, 41, 46, 41]⟩ : ByteArray))] (.s (.v .str c2)) [])
    (h3 : SC cfg.P i_spec_trRight [.s (.v (.int .i64) (IntKind.wrap .i64 (a0 + (2 : Int))))] (.s (.v .str c3)) []) :
    SC cfg.P i_spec_prGenerator [.s (.v (.int .i64) a0)] (.s (.v (.pr .str .str) (c2, c3))) [] :=
  SC_of_run cfgOK (its := [.res (.s (.v .str c1)) [] [] [], .res (.s (.v .str c2)) [] [] [], .res (.s (.v .str c3)) [] [] []])
    (ps := [SC cfg.P i_spec_trRight [.s (.v (.int .i64) a0)] (.s (.v .str c1)) [],
      SC cfg.P i_spec_trGraft [.s (.v .str c1), .s (.v (.int .i64) a0), .s (.v .str (⟨#[40, 40, 46, 46, 41, 46, 41]⟩ : ByteArray))] (.s (.v .str c2)) [],
      SC cfg.P i_spec_trRight [.s (.v (.int .i64) (IntKind.wrap .i64 (a0 + (2 : Int))))] (.s (.v .str c3)) []]) (by kernel_rfl) ⟨h1, h2, h3, trivial⟩ get_spec_prGenerator (by decide)

/-! ### impl_rightComb -/


def impl_rightComb_L0a (x3 : Tr) (x4 : Int) (x5 : Int) : St := mkSt 12 [(3, .s (.v .tree x3)), (4, .s (.v (.int .i64) x4)), (5, .s (.v (.int .i64) x5))] []

def impl_rightComb_L0X1 (y3 : Tr) (y4 : Int) (y5 : Int) (y6 : Bool) : St := mkSt 12 [(3, .s (.v .tree y3)), (4, .s (.v (.int .i64) y4)), (5, .s (.v (.int .i64) y5)), (6, .s (.v .bool y6))] []

theorem impl_rightComb_L0a_i1 (x3 : Tr) (x4 : Int) (x5 : Int)
    (h1 : x5 < x4)
    {e : AEx} {st : St} (next : LoopSC cfg.P 1 (lb P_impl_rightComb 0) (impl_rightComb_L0a (Tr.node Tr.leaf x3) x4 (IntKind.wrap .i64 (x5 + (1 : Int)))) e st) :
    LoopSC cfg.P 1 (lb P_impl_rightComb 0) (impl_rightComb_L0a x3 x4 x5) e st :=
  loop_iter cfgOK (f := i_impl_rightComb) (its := [.bool true])
    (ps := [decide (x5 < x4) = true]) (st1 := impl_rightComb_L0a (Tr.node Tr.leaf x3) x4 (IntKind.wrap .i64 (x5 + (1 : Int)))) (by kernel_rfl) ⟨(decide_eq_true h1), trivial⟩ next

theorem impl_rightComb_L0a_x2 (x3 : Tr) (x4 : Int) (x5 : Int)
    (h1 : ¬ (x5 < x4)) :
    LoopSC cfg.P 1 (lb P_impl_rightComb 0) (impl_rightComb_L0a x3 x4 x5) (.exit 0) (impl_rightComb_L0X1 x3 x4 x5 false) :=
  loop_out cfgOK (f := i_impl_rightComb) (its := [.bool false])
    (ps := [decide (x5 < x4) = false]) (by kernel_rfl) ⟨(decide_eq_false h1), trivial⟩ (fun h => by cases h)

theorem impl_rightComb_p1 (a0 : Int) (k1y3 : Tr) (k1y4 : Int) (k1y5 : Int) (k1y6 : Bool)
    (h1 : LoopSC cfg.P 1 (lb P_impl_rightComb 0) (impl_rightComb_L0a Tr.leaf a0 (0 : Int)) (.exit 0) (impl_rightComb_L0X1 k1y3 k1y4 k1y5 k1y6)) :
    SC cfg.P i_impl_rightComb [.s (.v (.int .i64) a0)] (.s (.v .tree k1y3)) [] :=
  SC_of_run cfgOK (its := [.loop (fun _ => (.exit 0, impl_rightComb_L0X1 k1y3 k1y4 k1y5 k1y6))])
    (ps := [LoopSC cfg.P 1 (lb P_impl_rightComb 0) (impl_rightComb_L0a Tr.leaf a0 (0 : Int)) (.exit 0) (impl_rightComb_L0X1 k1y3 k1y4 k1y5 k1y6)]) (by kernel_rfl) ⟨h1, trivial⟩ get_impl_rightComb (by decide)

/-! ### impl_node_graft -/


theorem impl_node_graft_p1 (a0 : Tr) (a1 : Int) (a2 : Tr) (c1 : Tr)
    (h1 : SC cfg.P i_impl_node_grown [.s (.v .tree a0), .s (.v (.int .i64) (0 : Int)), .fn i_impl_node_graft_k1 [] [.fadr (.int .i64) a1, .fadr .tree a2]] (.s (.v .tree c1)) []) :
    SC cfg.P i_impl_node_graft [.s (.v .tree a0), .s (.v (.int .i64) a1), .s (.v .tree a2)] (.s (.v .tree c1)) [] :=
  SC_of_run cfgOK (its := [.res (.s (.v .tree c1)) [] [] []])
    (ps := [SC cfg.P i_impl_node_grown [.s (.v .tree a0), .s (.v (.int .i64) (0 : Int)), .fn i_impl_node_graft_k1 [] [.fadr (.int .i64) a1, .fadr .tree a2]] (.s (.v .tree c1)) []]) (by kernel_rfl) ⟨h1, trivial⟩ get_impl_node_graft (by decide)

/-! ### spec_trGraft -/


def spec_trGraft_L0a (x0 : ByteArray) (x1 : Int) (x2 : ByteArray) (x7 : Int) (x8 : Int) : St := mkSt 35 [(0, .s (.v .str x0)), (1, .s (.v (.int .i64) x1)), (2, .s (.v .str x2)), (7, .s (.v (.int .i64) x7)), (8, .s (.v (.int .i64) x8))] []

def spec_trGraft_L0X1 (y6 : ByteArray) : St := mkSt 35 [(6, .s (.v .str y6))] []

def spec_trGraft_L0X2 (y0 : ByteArray) (y1 : Int) (y2 : ByteArray) (y7 : Int) (y8 : Int) (y12 : Bool) : St := mkSt 35 [(0, .s (.v .str y0)), (1, .s (.v (.int .i64) y1)), (2, .s (.v .str y2)), (7, .s (.v (.int .i64) y7)), (8, .s (.v (.int .i64) y8)), (12, .s (.v .bool y12))] []

theorem spec_trGraft_L0a_x1 (x0 : ByteArray) (x1 : Int) (x2 : ByteArray) (x7 : Int) (x8 : Int)
    (h1 : x8 < ((x0).size : Int))
    (h2 : 0 ≤ x8)
    (h3 : (bt x0 x8) = (46 : Int))
    (h4 : (IntKind.wrap .i64 (x7 + (1 : Int))) = x1)
    (h5 : x8 ≤ ((x0).size : Int))
    (h6 : ((ByteArray.extract x0 ((0 : Int)).toNat (x8).toNat)).size + (x2).size ≤ 2 ^ 62)
    (h7 : 0 ≤ (IntKind.wrap .i64 (x8 + (1 : Int))))
    (h8 : (IntKind.wrap .i64 (x8 + (1 : Int))) ≤ ((x0).size : Int))
    (h9 : (((ByteArray.extract x0 ((0 : Int)).toNat (x8).toNat) ++ x2)).size + ((ByteArray.extract x0 ((IntKind.wrap .i64 (x8 + (1 : Int)))).toNat (((x0).size : Int)).toNat)).size ≤ 2 ^ 62) :
    LoopSC cfg.P 3 (lb P_spec_trGraft 0) (spec_trGraft_L0a x0 x1 x2 x7 x8) (.ret) (spec_trGraft_L0X1 (((ByteArray.extract x0 ((0 : Int)).toNat (x8).toNat) ++ x2) ++ (ByteArray.extract x0 ((IntKind.wrap .i64 (x8 + (1 : Int)))).toNat (((x0).size : Int)).toNat))) :=
  loop_out cfgOK (f := i_spec_trGraft) (its := [.bool true, .bool true, .bool true])
    (ps := [decide (x8 < ((x0).size : Int)) = true,
      0 ≤ x8,
      x8 < ((x0).size : Int),
      ((bt x0 x8) == (46 : Int)) = true,
      ((IntKind.wrap .i64 (x7 + (1 : Int))) == x1) = true,
      0 ≤ x8,
      x8 ≤ ((x0).size : Int),
      ((ByteArray.extract x0 ((0 : Int)).toNat (x8).toNat)).size + (x2).size ≤ 2 ^ 62,
      0 ≤ (IntKind.wrap .i64 (x8 + (1 : Int))),
      (IntKind.wrap .i64 (x8 + (1 : Int))) ≤ ((x0).size : Int),
      (((ByteArray.extract x0 ((0 : Int)).toNat (x8).toNat) ++ x2)).size + ((ByteArray.extract x0 ((IntKind.wrap .i64 (x8 + (1 : Int)))).toNat (((x0).size : Int)).toNat)).size ≤ 2 ^ 62]) (by kernel_rfl) ⟨(decide_eq_true h1), h2, h1, (beq_t h3), (beq_t h4), h2, h5, h6, h7, h8, h9, trivial⟩ (fun h => by cases h)

theorem spec_trGraft_L0a_i2 (x0 : ByteArray) (x1 : Int) (x2 : ByteArray) (x7 : Int) (x8 : Int)
    (h1 : x8 < ((x0).size : Int))
    (h2 : 0 ≤ x8)
    (h3 : (bt x0 x8) = (46 : Int))
    (h4 : (IntKind.wrap .i64 (x7 + (1 : Int))) ≠ x1)
    {e : AEx} {st : St} (next : LoopSC cfg.P 3 (lb P_spec_trGraft 0) (spec_trGraft_L0a x0 x1 x2 (IntKind.wrap .i64 (x7 + (1 : Int))) (IntKind.wrap .i64 (x8 + (1 : Int)))) e st) :
    LoopSC cfg.P 3 (lb P_spec_trGraft 0) (spec_trGraft_L0a x0 x1 x2 x7 x8) e st :=
  loop_iter cfgOK (f := i_spec_trGraft) (its := [.bool true, .bool true, .bool false])
    (ps := [decide (x8 < ((x0).size : Int)) = true,
      0 ≤ x8,
      x8 < ((x0).size : Int),
      ((bt x0 x8) == (46 : Int)) = true,
      ((IntKind.wrap .i64 (x7 + (1 : Int))) == x1) = false]) (st1 := spec_trGraft_L0a x0 x1 x2 (IntKind.wrap .i64 (x7 + (1 : Int))) (IntKind.wrap .i64 (x8 + (1 : Int)))) (by kernel_rfl) ⟨(decide_eq_true h1), h2, h1, (beq_t h3), (beq_f h4), trivial⟩ next

theorem spec_trGraft_L0a_x3 (x0 : ByteArray) (x1 : Int) (x2 : ByteArray) (x7 : Int) (x8 : Int)
    (h1 : x8 < ((x0).size : Int))
    (h2 : 0 ≤ x8)
    (h3 : (bt x0 x8) ≠ (46 : Int))
    (h4 : x7 = x1)
    (h5 : x8 ≤ ((x0).size : Int))
    (h6 : ((ByteArray.extract x0 ((0 : Int)).toNat (x8).toNat)).size + (x2).size ≤ 2 ^ 62)
    (h7 : 0 ≤ (IntKind.wrap .i64 (x8 + (1 : Int))))
    (h8 : (IntKind.wrap .i64 (x8 + (1 : Int))) ≤ ((x0).size : Int))
    (h9 : (((ByteArray.extract x0 ((0 : Int)).toNat (x8).toNat) ++ x2)).size + ((ByteArray.extract x0 ((IntKind.wrap .i64 (x8 + (1 : Int)))).toNat (((x0).size : Int)).toNat)).size ≤ 2 ^ 62) :
    LoopSC cfg.P 3 (lb P_spec_trGraft 0) (spec_trGraft_L0a x0 x1 x2 x7 x8) (.ret) (spec_trGraft_L0X1 (((ByteArray.extract x0 ((0 : Int)).toNat (x8).toNat) ++ x2) ++ (ByteArray.extract x0 ((IntKind.wrap .i64 (x8 + (1 : Int)))).toNat (((x0).size : Int)).toNat))) :=
  loop_out cfgOK (f := i_spec_trGraft) (its := [.bool true, .bool false, .bool true])
    (ps := [decide (x8 < ((x0).size : Int)) = true,
      0 ≤ x8,
      x8 < ((x0).size : Int),
      ((bt x0 x8) == (46 : Int)) = false,
      (x7 == x1) = true,
      0 ≤ x8,
      x8 ≤ ((x0).size : Int),
      ((ByteArray.extract x0 ((0 : Int)).toNat (x8).toNat)).size + (x2).size ≤ 2 ^ 62,
      0 ≤ (IntKind.wrap .i64 (x8 + (1 : Int))),
      (IntKind.wrap .i64 (x8 + (1 : Int))) ≤ ((x0).size : Int),
      (((ByteArray.extract x0 ((0 : Int)).toNat (x8).toNat) ++ x2)).size + ((ByteArray.extract x0 ((IntKind.wrap .i64 (x8 + (1 : Int)))).toNat (((x0).size : Int)).toNat)).size ≤ 2 ^ 62]) (by kernel_rfl) ⟨(decide_eq_true h1), h2, h1, (beq_f h3), (beq_t h4), h2, h5, h6, h7, h8, h9, trivial⟩ (fun h => by cases h)

theorem spec_trGraft_L0a_i4 (x0 : ByteArray) (x1 : Int) (x2 : ByteArray) (x7 : Int) (x8 : Int)
    (h1 : x8 < ((x0).size : Int))
    (h2 : 0 ≤ x8)
    (h3 : (bt x0 x8) ≠ (46 : Int))
    (h4 : x7 ≠ x1)
    {e : AEx} {st : St} (next : LoopSC cfg.P 3 (lb P_spec_trGraft 0) (spec_trGraft_L0a x0 x1 x2 x7 (IntKind.wrap .i64 (x8 + (1 : Int)))) e st) :
    LoopSC cfg.P 3 (lb P_spec_trGraft 0) (spec_trGraft_L0a x0 x1 x2 x7 x8) e st :=
  loop_iter cfgOK (f := i_spec_trGraft) (its := [.bool true, .bool false, .bool false])
    (ps := [decide (x8 < ((x0).size : Int)) = true,
      0 ≤ x8,
      x8 < ((x0).size : Int),
      ((bt x0 x8) == (46 : Int)) = false,
      (x7 == x1) = false]) (st1 := spec_trGraft_L0a x0 x1 x2 x7 (IntKind.wrap .i64 (x8 + (1 : Int)))) (by kernel_rfl) ⟨(decide_eq_true h1), h2, h1, (beq_f h3), (beq_f h4), trivial⟩ next

theorem spec_trGraft_L0a_x5 (x0 : ByteArray) (x1 : Int) (x2 : ByteArray) (x7 : Int) (x8 : Int)
    (h1 : ¬ (x8 < ((x0).size : Int))) :
    LoopSC cfg.P 3 (lb P_spec_trGraft 0) (spec_trGraft_L0a x0 x1 x2 x7 x8) (.exit 0) (spec_trGraft_L0X2 x0 x1 x2 x7 x8 false) :=
  loop_out cfgOK (f := i_spec_trGraft) (its := [.bool false])
    (ps := [decide (x8 < ((x0).size : Int)) = false]) (by kernel_rfl) ⟨(decide_eq_false h1), trivial⟩ (fun h => by cases h)

theorem spec_trGraft_p1 (a0 : ByteArray) (a1 : Int) (a2 : ByteArray) (k1y6 : ByteArray)
    (h1 : LoopSC cfg.P 3 (lb P_spec_trGraft 0) (spec_trGraft_L0a a0 a1 a2 (-1 : Int) (0 : Int)) (.ret) (spec_trGraft_L0X1 k1y6)) :
    SC cfg.P i_spec_trGraft [.s (.v .str a0), .s (.v (.int .i64) a1), .s (.v .str a2)] (.s (.v .str k1y6)) [] :=
  SC_of_run cfgOK (its := [.loop (fun _ => (.ret, spec_trGraft_L0X1 k1y6))])
    (ps := [LoopSC cfg.P 3 (lb P_spec_trGraft 0) (spec_trGraft_L0a a0 a1 a2 (-1 : Int) (0 : Int)) (.ret) (spec_trGraft_L0X1 k1y6)]) (by kernel_rfl) ⟨h1, trivial⟩ get_spec_trGraft (by decide)

theorem spec_trGraft_p2 (a0 : ByteArray) (a1 : Int) (a2 : ByteArray) (k1y0 : ByteArray) (k1y1 : Int) (k1y2 : ByteArray) (k1y7 : Int) (k1y8 : Int) (k1y12 : Bool)
    (h1 : LoopSC cfg.P 3 (lb P_spec_trGraft 0) (spec_trGraft_L0a a0 a1 a2 (-1 : Int) (0 : Int)) (.exit 0) (spec_trGraft_L0X2 k1y0 k1y1 k1y2 k1y7 k1y8 k1y12)) :
    SC cfg.P i_spec_trGraft [.s (.v .str a0), .s (.v (.int .i64) a1), .s (.v .str a2)] (.s (.v .str k1y0)) [] :=
  SC_of_run cfgOK (its := [.loop (fun _ => (.exit 0, spec_trGraft_L0X2 k1y0 k1y1 k1y2 k1y7 k1y8 k1y12))])
    (ps := [LoopSC cfg.P 3 (lb P_spec_trGraft 0) (spec_trGraft_L0a a0 a1 a2 (-1 : Int) (0 : Int)) (.exit 0) (spec_trGraft_L0X2 k1y0 k1y1 k1y2 k1y7 k1y8 k1y12)]) (by kernel_rfl) ⟨h1, trivial⟩ get_spec_trGraft (by decide)

/-! ### spec_trRight -/


def spec_trRight_L0a (x0 : Int) (x3 : ByteArray) : St := mkSt 11 [(0, .s (.v (.int .i64) x0)), (3, .s (.v .str x3))] []

def spec_trRight_L0X1 (y0 : Int) (y3 : ByteArray) (y5 : Bool) : St := mkSt 11 [(0, .s (.v (.int .i64) y0)), (3, .s (.v .str y3)), (5, .s (.v .bool y5))] []

theorem spec_trRight_L0a_i1 (x0 : Int) (x3 : ByteArray) (dc1 : ByteArray)
    (h1 : x0 > (0 : Int))
    (h2 : SC cfg.P i_spec_trOf [.s (.v .str (⟨#[46]⟩ : ByteArray)), .s (.v .str x3)] (.s (.v .str dc1)) [])
    {e : AEx} {st : St} (next : LoopSC cfg.P 1 (lb P_spec_trRight 0) (spec_trRight_L0a (IntKind.wrap .i64 (x0 - (1 : Int))) dc1) e st) :
    LoopSC cfg.P 1 (lb P_spec_trRight 0) (spec_trRight_L0a x0 x3) e st :=
  loop_iter cfgOK (f := i_spec_trRight) (its := [.bool true, .res (.s (.v .str dc1)) [] [] []])
    (ps := [decide (x0 > (0 : Int)) = true,
      SC cfg.P i_spec_trOf [.s (.v .str (⟨#[46]⟩ : ByteArray)), .s (.v .str x3)] (.s (.v .str dc1)) []]) (st1 := spec_trRight_L0a (IntKind.wrap .i64 (x0 - (1 : Int))) dc1) (by kernel_rfl) ⟨(decide_eq_true h1), h2, trivial⟩ next

theorem spec_trRight_L0a_x2 (x0 : Int) (x3 : ByteArray)
    (h1 : ¬ (x0 > (0 : Int))) :
    LoopSC cfg.P 1 (lb P_spec_trRight 0) (spec_trRight_L0a x0 x3) (.exit 0) (spec_trRight_L0X1 x0 x3 false) :=
  loop_out cfgOK (f := i_spec_trRight) (its := [.bool false])
    (ps := [decide (x0 > (0 : Int)) = false]) (by kernel_rfl) ⟨(decide_eq_false h1), trivial⟩ (fun h => by cases h)

theorem spec_trRight_p1 (a0 : Int) (k1y0 : Int) (k1y3 : ByteArray) (k1y5 : Bool)
    (h1 : LoopSC cfg.P 1 (lb P_spec_trRight 0) (spec_trRight_L0a a0 (⟨#[46]⟩ : ByteArray)) (.exit 0) (spec_trRight_L0X1 k1y0 k1y3 k1y5)) :
    SC cfg.P i_spec_trRight [.s (.v (.int .i64) a0)] (.s (.v .str k1y3)) [] :=
  SC_of_run cfgOK (its := [.loop (fun _ => (.exit 0, spec_trRight_L0X1 k1y0 k1y3 k1y5))])
    (ps := [LoopSC cfg.P 1 (lb P_spec_trRight 0) (spec_trRight_L0a a0 (⟨#[46]⟩ : ByteArray)) (.exit 0) (spec_trRight_L0X1 k1y0 k1y3 k1y5)]) (by kernel_rfl) ⟨h1, trivial⟩ get_spec_trRight (by decide)

end Go.AI
