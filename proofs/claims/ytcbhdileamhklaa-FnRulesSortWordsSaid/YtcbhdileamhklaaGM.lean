/- A part of the road: what it proves stands in its last texts. -/
import Derived.Test.YtcbhdileamhklaaSIds
import Derived.Test.YtcbhdileamhklaaProg
set_option autoImplicit false
set_option maxRecDepth 100000
set_option linter.unusedVariables false
namespace Go.AI
open Go.Proofs

/-! ### impl_pair_times -/


theorem impl_pair_times_p1 (a0 : (Tr × Tr)) (a1 : (Tr × Tr)) (c1 : Tr) (c2g0 : Tr) (c2g1 : (List ByteArray)) (c3 : Tr) (c4g0 : Tr) (c4g1 : (List ByteArray)) (c5 : Tr) (c6 : (Tr × Tr))
    (h1 : SC cfg.P i_impl_join [.s (.v .tree a0.2), .s (.v .tree a1.1)] (.s (.v .tree c1)) [])
    (h2 : SC cfg.P i_impl_parts [.s (.v .tree a0.2), .s (.v .tree c1)] (.fn i_impl_parts_k1 [] [.fadr .tree c2g0, .fadr (.sl .str) c2g1]) [])
    (h3 : SC cfg.P i_impl_node_grown [.s (.v .tree a0.1), .s (.v (.int .i64) (0 : Int)), .fn i_impl_parts_k1 [] [.fadr .tree c2g0, .fadr (.sl .str) c2g1]] (.s (.v .tree c3)) [])
    (h4 : SC cfg.P i_impl_parts [.s (.v .tree a1.1), .s (.v .tree c1)] (.fn i_impl_parts_k1 [] [.fadr .tree c4g0, .fadr (.sl .str) c4g1]) [])
    (h5 : SC cfg.P i_impl_node_grown [.s (.v .tree a1.2), .s (.v (.int .i64) (0 : Int)), .fn i_impl_parts_k1 [] [.fadr .tree c4g0, .fadr (.sl .str) c4g1]] (.s (.v .tree c5)) [])
    (h6 : SC cfg.P i_impl_pair_reduced [.s (.v (.pr .tree .tree) (c3, c5))] (.s (.v (.pr .tree .tree) c6)) []) :
    SC cfg.P i_impl_pair_times [.s (.v (.pr .tree .tree) a0), .s (.v (.pr .tree .tree) a1)] (.s (.v (.pr .tree .tree) c6)) [] :=
  SC_of_run cfgOK (its := [.res (.s (.v .tree c1)) [] [] [], .res (.fn i_impl_parts_k1 [] [.fadr .tree c2g0, .fadr (.sl .str) c2g1]) [] [] [], .res (.s (.v .tree c3)) [] [] [], .res (.fn i_impl_parts_k1 [] [.fadr .tree c4g0, .fadr (.sl .str) c4g1]) [] [] [], .res (.s (.v .tree c5)) [] [] [], .res (.s (.v (.pr .tree .tree) c6)) [] [] []])
    (ps := [SC cfg.P i_impl_join [.s (.v .tree a0.2), .s (.v .tree a1.1)] (.s (.v .tree c1)) [],
      SC cfg.P i_impl_parts [.s (.v .tree a0.2), .s (.v .tree c1)] (.fn i_impl_parts_k1 [] [.fadr .tree c2g0, .fadr (.sl .str) c2g1]) [],
      SC cfg.P i_impl_node_grown [.s (.v .tree a0.1), .s (.v (.int .i64) (0 : Int)), .fn i_impl_parts_k1 [] [.fadr .tree c2g0, .fadr (.sl .str) c2g1]] (.s (.v .tree c3)) [],
      SC cfg.P i_impl_parts [.s (.v .tree a1.1), .s (.v .tree c1)] (.fn i_impl_parts_k1 [] [.fadr .tree c4g0, .fadr (.sl .str) c4g1]) [],
      SC cfg.P i_impl_node_grown [.s (.v .tree a1.2), .s (.v (.int .i64) (0 : Int)), .fn i_impl_parts_k1 [] [.fadr .tree c4g0, .fadr (.sl .str) c4g1]] (.s (.v .tree c5)) [],
      SC cfg.P i_impl_pair_reduced [.s (.v (.pr .tree .tree) (c3, c5))] (.s (.v (.pr .tree .tree) c6)) []]) (by kernel_rfl) ⟨h1, h2, h3, h4, h5, h6, trivial⟩ get_impl_pair_times (by decide)

/-! ### impl_join -/


theorem impl_join_p1 (a1 : Tr)
     :
    SC cfg.P i_impl_join [.s (.v .tree Tr.leaf), .s (.v .tree a1)] (.s (.v .tree a1)) [] :=
  SC_of_run cfgOK (its := [.bool true])
    (ps := [Tr.leaf.isLeaf = true]) (by kernel_rfl) ⟨rfl, trivial⟩ get_impl_join (by decide)

theorem impl_join_p2 (a0l : Tr) (a0r : Tr)
     :
    SC cfg.P i_impl_join [.s (.v .tree (Tr.node a0l a0r)), .s (.v .tree Tr.leaf)] (.s (.v .tree (Tr.node a0l a0r))) [] :=
  SC_of_run cfgOK (its := [.bool false, .bool true])
    (ps := [(Tr.node a0l a0r).isLeaf = false,
      Tr.leaf.isLeaf = true]) (by kernel_rfl) ⟨rfl, rfl, trivial⟩ get_impl_join (by decide)

theorem impl_join_p3 (a0l : Tr) (a0r : Tr) (a1l : Tr) (a1r : Tr) (c1 : Tr) (c2 : Tr)
    (h1 : SC cfg.P i_impl_join [.s (.v .tree a0l), .s (.v .tree a1l)] (.s (.v .tree c1)) [])
    (h2 : SC cfg.P i_impl_join [.s (.v .tree a0r), .s (.v .tree a1r)] (.s (.v .tree c2)) []) :
    SC cfg.P i_impl_join [.s (.v .tree (Tr.node a0l a0r)), .s (.v .tree (Tr.node a1l a1r))] (.s (.v .tree (Tr.node c1 c2))) [] :=
  SC_of_run cfgOK (its := [.bool false, .bool false, .res (.s (.v .tree c1)) [] [] [], .res (.s (.v .tree c2)) [] [] []])
    (ps := [(Tr.node a0l a0r).isLeaf = false,
      (Tr.node a1l a1r).isLeaf = false,
      SC cfg.P i_impl_join [.s (.v .tree a0l), .s (.v .tree a1l)] (.s (.v .tree c1)) [],
      SC cfg.P i_impl_join [.s (.v .tree a0r), .s (.v .tree a1r)] (.s (.v .tree c2)) []]) (by kernel_rfl) ⟨rfl, rfl, h1, h2, trivial⟩ get_impl_join (by decide)

/-! ### impl_node_grown -/


theorem impl_node_grown_p1 (a1 : Int) (a2F : FuncId) (a2g : Tr) (a2h : (List ByteArray)) (c1 : Tr)
    (h1 : SC cfg.P a2F [.s (.v (.int .i64) a1), .s (.fadr .tree a2g), .s (.fadr (.sl .str) a2h)] (.s (.v .tree c1)) []) :
    SC cfg.P i_impl_node_grown [.s (.v .tree Tr.leaf), .s (.v (.int .i64) a1), .fn a2F [] [.fadr .tree a2g, .fadr (.sl .str) a2h]] (.s (.v .tree c1)) [] :=
  SC_of_run cfgOK (its := [.bool true, .res (.s (.v .tree c1)) [] [] []])
    (ps := [Tr.leaf.isLeaf = true,
      SC cfg.P a2F [.s (.v (.int .i64) a1), .s (.fadr .tree a2g), .s (.fadr (.sl .str) a2h)] (.s (.v .tree c1)) []]) (by kernel_rfl) ⟨rfl, h1, trivial⟩ get_impl_node_grown (by decide)

theorem impl_node_grown_p2 (a0l : Tr) (a0r : Tr) (a1 : Int) (a2F : FuncId) (a2g : Tr) (a2h : (List ByteArray)) (c1 : Tr) (c2 : Int) (c3 : Tr)
    (h1 : SC cfg.P i_impl_node_grown [.s (.v .tree a0l), .s (.v (.int .i64) a1), .fn a2F [] [.fadr .tree a2g, .fadr (.sl .str) a2h]] (.s (.v .tree c1)) [])
    (h2 : SC cfg.P i_impl_node_leaves [.s (.v .tree a0l)] (.s (.v (.int .i64) c2)) [])
    (h3 : SC cfg.P i_impl_node_grown [.s (.v .tree a0r), .s (.v (.int .i64) (IntKind.wrap .i64 (a1 + c2))), .fn a2F [] [.fadr .tree a2g, .fadr (.sl .str) a2h]] (.s (.v .tree c3)) []) :
    SC cfg.P i_impl_node_grown [.s (.v .tree (Tr.node a0l a0r)), .s (.v (.int .i64) a1), .fn a2F [] [.fadr .tree a2g, .fadr (.sl .str) a2h]] (.s (.v .tree (Tr.node c1 c3))) [] :=
  SC_of_run cfgOK (its := [.bool false, .res (.s (.v .tree c1)) [] [] [], .res (.s (.v (.int .i64) c2)) [] [] [], .res (.s (.v .tree c3)) [] [] []])
    (ps := [(Tr.node a0l a0r).isLeaf = false,
      SC cfg.P i_impl_node_grown [.s (.v .tree a0l), .s (.v (.int .i64) a1), .fn a2F [] [.fadr .tree a2g, .fadr (.sl .str) a2h]] (.s (.v .tree c1)) [],
      SC cfg.P i_impl_node_leaves [.s (.v .tree a0l)] (.s (.v (.int .i64) c2)) [],
      SC cfg.P i_impl_node_grown [.s (.v .tree a0r), .s (.v (.int .i64) (IntKind.wrap .i64 (a1 + c2))), .fn a2F [] [.fadr .tree a2g, .fadr (.sl .str) a2h]] (.s (.v .tree c3)) []]) (by kernel_rfl) ⟨rfl, h1, h2, h3, trivial⟩ get_impl_node_grown (by decide)

theorem impl_node_grownB_p1 (a1 : Int) (a2F : FuncId) (a2g : Int) (a2h : Tr) (c1 : Tr)
    (h1 : SC cfg.P a2F [.s (.v (.int .i64) a1), .s (.fadr (.int .i64) a2g), .s (.fadr .tree a2h)] (.s (.v .tree c1)) []) :
    SC cfg.P i_impl_node_grown [.s (.v .tree Tr.leaf), .s (.v (.int .i64) a1), .fn a2F [] [.fadr (.int .i64) a2g, .fadr .tree a2h]] (.s (.v .tree c1)) [] :=
  SC_of_run cfgOK (its := [.bool true, .res (.s (.v .tree c1)) [] [] []])
    (ps := [Tr.leaf.isLeaf = true,
      SC cfg.P a2F [.s (.v (.int .i64) a1), .s (.fadr (.int .i64) a2g), .s (.fadr .tree a2h)] (.s (.v .tree c1)) []]) (by kernel_rfl) ⟨rfl, h1, trivial⟩ get_impl_node_grown (by decide)

theorem impl_node_grownB_p2 (a0l : Tr) (a0r : Tr) (a1 : Int) (a2F : FuncId) (a2g : Int) (a2h : Tr) (c1 : Tr) (c2 : Int) (c3 : Tr)
    (h1 : SC cfg.P i_impl_node_grown [.s (.v .tree a0l), .s (.v (.int .i64) a1), .fn a2F [] [.fadr (.int .i64) a2g, .fadr .tree a2h]] (.s (.v .tree c1)) [])
    (h2 : SC cfg.P i_impl_node_leaves [.s (.v .tree a0l)] (.s (.v (.int .i64) c2)) [])
    (h3 : SC cfg.P i_impl_node_grown [.s (.v .tree a0r), .s (.v (.int .i64) (IntKind.wrap .i64 (a1 + c2))), .fn a2F [] [.fadr (.int .i64) a2g, .fadr .tree a2h]] (.s (.v .tree c3)) []) :
    SC cfg.P i_impl_node_grown [.s (.v .tree (Tr.node a0l a0r)), .s (.v (.int .i64) a1), .fn a2F [] [.fadr (.int .i64) a2g, .fadr .tree a2h]] (.s (.v .tree (Tr.node c1 c3))) [] :=
  SC_of_run cfgOK (its := [.bool false, .res (.s (.v .tree c1)) [] [] [], .res (.s (.v (.int .i64) c2)) [] [] [], .res (.s (.v .tree c3)) [] [] []])
    (ps := [(Tr.node a0l a0r).isLeaf = false,
      SC cfg.P i_impl_node_grown [.s (.v .tree a0l), .s (.v (.int .i64) a1), .fn a2F [] [.fadr (.int .i64) a2g, .fadr .tree a2h]] (.s (.v .tree c1)) [],
      SC cfg.P i_impl_node_leaves [.s (.v .tree a0l)] (.s (.v (.int .i64) c2)) [],
      SC cfg.P i_impl_node_grown [.s (.v .tree a0r), .s (.v (.int .i64) (IntKind.wrap .i64 (a1 + c2))), .fn a2F [] [.fadr (.int .i64) a2g, .fadr .tree a2h]] (.s (.v .tree c3)) []]) (by kernel_rfl) ⟨rfl, h1, h2, h3, trivial⟩ get_impl_node_grown (by decide)

/-! ### impl_parts -/


theorem impl_parts_p1 (a0 : Tr) (a1 : Tr) (c1 : (List ByteArray))
    (h1 : SC cfg.P i_impl_node_addresses [.s (.v .tree a0), .s (.v .str (⟨#[]⟩ : ByteArray))] (.s (.own t_string .str c1)) []) :
    SC cfg.P i_impl_parts [.s (.v .tree a0), .s (.v .tree a1)] (.fn i_impl_parts_k1 [] [.fadr .tree a1, .fadr (.sl .str) c1]) [] :=
  SC_of_run cfgOK (its := [.res (.s (.own t_string .str c1)) [] [] [7]])
    (ps := [SC cfg.P i_impl_node_addresses [.s (.v .tree a0), .s (.v .str (⟨#[]⟩ : ByteArray))] (.s (.own t_string .str c1)) []]) (by kernel_rfl) ⟨h1, trivial⟩ get_impl_parts (by decide)

/-! ### impl_node_addresses -/


theorem impl_node_addresses_p1 (a1 : ByteArray)
     :
    SC cfg.P i_impl_node_addresses [.s (.v .tree Tr.leaf), .s (.v .str a1)] (.s (.own t_string .str ([a1] : List ByteArray))) [] :=
  SC_of_run cfgOK (its := [.bool true])
    (ps := [Tr.leaf.isLeaf = true]) (by kernel_rfl) ⟨rfl, trivial⟩ get_impl_node_addresses (by decide)

theorem impl_node_addresses_p2 (a0l : Tr) (a0r : Tr) (a1 : ByteArray) (c1 : (List ByteArray)) (c2 : (List ByteArray))
    (h1 : (a1).size + ((⟨#[48]⟩ : ByteArray)).size ≤ 2 ^ 62)
    (h2 : SC cfg.P i_impl_node_addresses [.s (.v .tree a0l), .s (.v .str (a1 ++ (⟨#[48]⟩ : ByteArray)))] (.s (.own t_string .str c1)) [])
    (h3 : (a1).size + ((⟨#[49]⟩ : ByteArray)).size ≤ 2 ^ 62)
    (h4 : SC cfg.P i_impl_node_addresses [.s (.v .tree a0r), .s (.v .str (a1 ++ (⟨#[49]⟩ : ByteArray)))] (.s (.own t_string .str c2)) [])
    (h5 : sizeOK (List.length c1 + List.length c2)) :
    SC cfg.P i_impl_node_addresses [.s (.v .tree (Tr.node a0l a0r)), .s (.v .str a1)] (.s (.own t_string .str (c1 ++ c2))) [] :=
  SC_of_run cfgOK (its := [.bool false, .res (.s (.own t_string .str c1)) [] [] [15], .res (.s (.own t_string .str c2)) [] [] [22]])
    (ps := [(Tr.node a0l a0r).isLeaf = false,
      (a1).size + ((⟨#[48]⟩ : ByteArray)).size ≤ 2 ^ 62,
      SC cfg.P i_impl_node_addresses [.s (.v .tree a0l), .s (.v .str (a1 ++ (⟨#[48]⟩ : ByteArray)))] (.s (.own t_string .str c1)) [],
      (a1).size + ((⟨#[49]⟩ : ByteArray)).size ≤ 2 ^ 62,
      SC cfg.P i_impl_node_addresses [.s (.v .tree a0r), .s (.v .str (a1 ++ (⟨#[49]⟩ : ByteArray)))] (.s (.own t_string .str c2)) [],
      sizeOK (List.length c1 + List.length c2)]) (by kernel_rfl) ⟨rfl, h1, h2, h3, h4, h5, trivial⟩ get_impl_node_addresses (by decide)

/-! ### impl_parts_k1 -/


theorem impl_parts_k1_p1 (a0 : Int) (b0 : Tr) (b1 : (List ByteArray)) (c1a : Tr) (c1b : Bool)
    (h1 : 0 ≤ a0)
    (h2 : a0 < (List.length b1 : Int))
    (h3 : SC cfg.P i_impl_node_at [.s (.v .tree b0), .s (.v .str (List.getD b1 (a0).toNat (⟨#[]⟩ : ByteArray)))] (.tup [.v .tree c1a, .v .bool c1b]) []) :
    SC cfg.P i_impl_parts_k1 [.s (.v (.int .i64) a0), .s (.fadr .tree b0), .s (.fadr (.sl .str) b1)] (.s (.v .tree c1a)) [] :=
  SC_of_run cfgOK (its := [.res (.tup [.v .tree c1a, .v .bool c1b]) [] [] []])
    (ps := [0 ≤ a0,
      a0 < (List.length b1 : Int),
      SC cfg.P i_impl_node_at [.s (.v .tree b0), .s (.v .str (List.getD b1 (a0).toNat (⟨#[]⟩ : ByteArray)))] (.tup [.v .tree c1a, .v .bool c1b]) []]) (by kernel_rfl) ⟨h1, h2, h3, trivial⟩ get_impl_parts_k1 (by decide)

/-! ### impl_node_at -/


def impl_node_at_L0a (x0 : Tr) (x1 : ByteArray) (x8 : Int) (x9 : Int) : St := mkSt 35 [(0, .s (.v .tree x0)), (1, .s (.v .str x1)), (8, .s (.v (.int .i64) x8)), (9, .s (.v (.int .i64) x9))] []

def impl_node_at_L0X1 (y4 : Tr) (y5 : Bool) : St := mkSt 35 [(4, .s (.v .tree y4)), (5, .s (.v .bool y5))] []

def impl_node_at_L0X2 (y0 : Tr) (y1 : ByteArray) (y8 : Int) (y9 : Int) (y10 : Bool) : St := mkSt 35 [(0, .s (.v .tree y0)), (1, .s (.v .str y1)), (8, .s (.v (.int .i64) y8)), (9, .s (.v (.int .i64) y9)), (10, .s (.v .bool y10))] []

theorem impl_node_at_L0a_x1 (x1 : ByteArray) (x8 : Int) (x9 : Int)
    (h1 : x9 < x8) :
    LoopSC cfg.P 2 (lb P_impl_node_at 0) (impl_node_at_L0a Tr.leaf x1 x8 x9) (.ret) (impl_node_at_L0X1 Tr.leaf false) :=
  loop_out cfgOK (f := i_impl_node_at) (its := [.bool true, .bool true])
    (ps := [decide (x9 < x8) = true,
      Tr.leaf.isLeaf = true]) (by kernel_rfl) ⟨(decide_eq_true h1), rfl, trivial⟩ (fun h => by cases h)

theorem impl_node_at_L0a_i2 (x0l : Tr) (x0r : Tr) (x1 : ByteArray) (x8 : Int) (x9 : Int)
    (h1 : x9 < x8)
    (h2 : 0 ≤ x9)
    (h3 : x9 < ((x1).size : Int))
    (h4 : (bt x1 x9) = (48 : Int))
    {e : AEx} {st : St} (next : LoopSC cfg.P 2 (lb P_impl_node_at 0) (impl_node_at_L0a x0l x1 x8 (IntKind.wrap .i64 (x9 + (1 : Int)))) e st) :
    LoopSC cfg.P 2 (lb P_impl_node_at 0) (impl_node_at_L0a (Tr.node x0l x0r) x1 x8 x9) e st :=
  loop_iter cfgOK (f := i_impl_node_at) (its := [.bool true, .bool false, .bool true])
    (ps := [decide (x9 < x8) = true,
      (Tr.node x0l x0r).isLeaf = false,
      0 ≤ x9,
      x9 < ((x1).size : Int),
      ((bt x1 x9) == (48 : Int)) = true]) (st1 := impl_node_at_L0a x0l x1 x8 (IntKind.wrap .i64 (x9 + (1 : Int)))) (by kernel_rfl) ⟨(decide_eq_true h1), rfl, h2, h3, (beq_iff_eq.mpr h4), trivial⟩ next

theorem impl_node_at_L0a_i3 (x0l : Tr) (x0r : Tr) (x1 : ByteArray) (x8 : Int) (x9 : Int)
    (h1 : x9 < x8)
    (h2 : 0 ≤ x9)
    (h3 : x9 < ((x1).size : Int))
    (h4 : (bt x1 x9) ≠ (48 : Int))
    (h5 : (bt x1 x9) = (49 : Int))
    {e : AEx} {st : St} (next : LoopSC cfg.P 2 (lb P_impl_node_at 0) (impl_node_at_L0a x0r x1 x8 (IntKind.wrap .i64 (x9 + (1 : Int)))) e st) :
    LoopSC cfg.P 2 (lb P_impl_node_at 0) (impl_node_at_L0a (Tr.node x0l x0r) x1 x8 x9) e st :=
  loop_iter cfgOK (f := i_impl_node_at) (its := [.bool true, .bool false, .bool false, .bool true])
    (ps := [decide (x9 < x8) = true,
      (Tr.node x0l x0r).isLeaf = false,
      0 ≤ x9,
      x9 < ((x1).size : Int),
      ((bt x1 x9) == (48 : Int)) = false,
      0 ≤ x9,
      x9 < ((x1).size : Int),
      ((bt x1 x9) == (49 : Int)) = true]) (st1 := impl_node_at_L0a x0r x1 x8 (IntKind.wrap .i64 (x9 + (1 : Int)))) (by kernel_rfl) ⟨(decide_eq_true h1), rfl, h2, h3, (beq_eq_false_iff_ne.mpr h4), h2, h3, (beq_iff_eq.mpr h5), trivial⟩ next

theorem impl_node_at_L0a_x4 (x0l : Tr) (x0r : Tr) (x1 : ByteArray) (x8 : Int) (x9 : Int)
    (h1 : x9 < x8)
    (h2 : 0 ≤ x9)
    (h3 : x9 < ((x1).size : Int))
    (h4 : (bt x1 x9) ≠ (48 : Int))
    (h5 : (bt x1 x9) ≠ (49 : Int)) :
    LoopSC cfg.P 2 (lb P_impl_node_at 0) (impl_node_at_L0a (Tr.node x0l x0r) x1 x8 x9) (.ret) (impl_node_at_L0X1 Tr.leaf false) :=
  loop_out cfgOK (f := i_impl_node_at) (its := [.bool true, .bool false, .bool false, .bool false])
    (ps := [decide (x9 < x8) = true,
      (Tr.node x0l x0r).isLeaf = false,
      0 ≤ x9,
      x9 < ((x1).size : Int),
      ((bt x1 x9) == (48 : Int)) = false,
      0 ≤ x9,
      x9 < ((x1).size : Int),
      ((bt x1 x9) == (49 : Int)) = false]) (by kernel_rfl) ⟨(decide_eq_true h1), rfl, h2, h3, (beq_eq_false_iff_ne.mpr h4), h2, h3, (beq_eq_false_iff_ne.mpr h5), trivial⟩ (fun h => by cases h)

theorem impl_node_at_L0a_x5 (x0 : Tr) (x1 : ByteArray) (x8 : Int) (x9 : Int)
    (h1 : ¬ (x9 < x8)) :
    LoopSC cfg.P 2 (lb P_impl_node_at 0) (impl_node_at_L0a x0 x1 x8 x9) (.exit 0) (impl_node_at_L0X2 x0 x1 x8 x9 false) :=
  loop_out cfgOK (f := i_impl_node_at) (its := [.bool false])
    (ps := [decide (x9 < x8) = false]) (by kernel_rfl) ⟨(decide_eq_false h1), trivial⟩ (fun h => by cases h)

theorem impl_node_at_p1 (a0 : Tr) (a1 : ByteArray) (k1y4 : Tr) (k1y5 : Bool)
    (h1 : LoopSC cfg.P 2 (lb P_impl_node_at 0) (impl_node_at_L0a a0 a1 ((a1).size : Int) (0 : Int)) (.ret) (impl_node_at_L0X1 k1y4 k1y5)) :
    SC cfg.P i_impl_node_at [.s (.v .tree a0), .s (.v .str a1)] (.tup [.v .tree k1y4, .v .bool k1y5]) [] :=
  SC_of_run cfgOK (its := [.loop (fun _ => (.ret, impl_node_at_L0X1 k1y4 k1y5))])
    (ps := [LoopSC cfg.P 2 (lb P_impl_node_at 0) (impl_node_at_L0a a0 a1 ((a1).size : Int) (0 : Int)) (.ret) (impl_node_at_L0X1 k1y4 k1y5)]) (by kernel_rfl) ⟨h1, trivial⟩ get_impl_node_at (by decide)

theorem impl_node_at_p2 (a0 : Tr) (a1 : ByteArray) (k1y0 : Tr) (k1y1 : ByteArray) (k1y8 : Int) (k1y9 : Int) (k1y10 : Bool)
    (h1 : LoopSC cfg.P 2 (lb P_impl_node_at 0) (impl_node_at_L0a a0 a1 ((a1).size : Int) (0 : Int)) (.exit 0) (impl_node_at_L0X2 k1y0 k1y1 k1y8 k1y9 k1y10)) :
    SC cfg.P i_impl_node_at [.s (.v .tree a0), .s (.v .str a1)] (.tup [.v .tree k1y0, .v .bool true]) [] :=
  SC_of_run cfgOK (its := [.loop (fun _ => (.exit 0, impl_node_at_L0X2 k1y0 k1y1 k1y8 k1y9 k1y10))])
    (ps := [LoopSC cfg.P 2 (lb P_impl_node_at 0) (impl_node_at_L0a a0 a1 ((a1).size : Int) (0 : Int)) (.exit 0) (impl_node_at_L0X2 k1y0 k1y1 k1y8 k1y9 k1y10)]) (by kernel_rfl) ⟨h1, trivial⟩ get_impl_node_at (by decide)

end Go.AI
