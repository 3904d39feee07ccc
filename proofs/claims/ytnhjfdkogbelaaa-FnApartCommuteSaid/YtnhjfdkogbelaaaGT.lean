/- A part of the road: what it proves stands in its last texts. -/
import Derived.Test.YtnhjfdkogbelaaaSIds
import Derived.Test.YtnhjfdkogbelaaaProg
set_option autoImplicit false
set_option maxRecDepth 100000
set_option linter.unusedVariables false
namespace Go.AI
open Go.Proofs

/-! ### impl_node_carets -/


theorem impl_node_carets_p1 
     :
    SC cfg.P i_impl_node_carets [.s (.v .tree Tr.leaf)] (.s (.v (.int .i64) (0 : Int))) [] :=
  SC_of_run cfgOK (its := [.bool true])
    (ps := [Tr.leaf.isLeaf = true]) (by kernel_rfl) ⟨rfl, trivial⟩ get_impl_node_carets (by decide)

theorem impl_node_carets_p2 (a0l : Tr) (a0r : Tr) (c1 : Int) (c2 : Int)
    (h1 : SC cfg.P i_impl_node_carets [.s (.v .tree a0l)] (.s (.v (.int .i64) c1)) [])
    (h2 : SC cfg.P i_impl_node_carets [.s (.v .tree a0r)] (.s (.v (.int .i64) c2)) []) :
    SC cfg.P i_impl_node_carets [.s (.v .tree (Tr.node a0l a0r))] (.s (.v (.int .i64) (IntKind.wrap .i64 ((IntKind.wrap .i64 ((1 : Int) + c1)) + c2)))) [] :=
  SC_of_run cfgOK (its := [.bool false, .res (.s (.v (.int .i64) c1)) [] [] [], .res (.s (.v (.int .i64) c2)) [] [] []])
    (ps := [(Tr.node a0l a0r).isLeaf = false,
      SC cfg.P i_impl_node_carets [.s (.v .tree a0l)] (.s (.v (.int .i64) c1)) [],
      SC cfg.P i_impl_node_carets [.s (.v .tree a0r)] (.s (.v (.int .i64) c2)) []]) (by kernel_rfl) ⟨rfl, h1, h2, trivial⟩ get_impl_node_carets (by decide)

/-! ### spec_trIs -/


theorem spec_trIs_p1 (a0 : ByteArray) (c1 : Int) (c2 : Int)
    (h1 : ((a0).size : Int) ≤ (33 : Int))
    (h2 : SC cfg.P i_spec_trCarets [.s (.v .str a0)] (.s (.v (.int .i64) c1)) [])
    (h3 : c1 ≤ (8 : Int))
    (h4 : SC cfg.P i_spec_trEnd [.s (.v .str a0), .s (.v (.int .i64) (0 : Int)), .s (.v (.int .i64) (0 : Int))] (.s (.v (.int .i64) c2)) [])
    (h5 : c2 = ((a0).size : Int)) :
    SC cfg.P i_spec_trIs [.s (.v .str a0)] (.s (.v .bool true)) [] :=
  SC_of_run cfgOK (its := [.bool true, .res (.s (.v (.int .i64) c1)) [] [] [], .bool true, .res (.s (.v (.int .i64) c2)) [] [] [], .bool true])
    (ps := [decide (((a0).size : Int) ≤ (33 : Int)) = true,
      SC cfg.P i_spec_trCarets [.s (.v .str a0)] (.s (.v (.int .i64) c1)) [],
      decide (c1 ≤ (8 : Int)) = true,
      SC cfg.P i_spec_trEnd [.s (.v .str a0), .s (.v (.int .i64) (0 : Int)), .s (.v (.int .i64) (0 : Int))] (.s (.v (.int .i64) c2)) [],
      (c2 == ((a0).size : Int)) = true]) (by kernel_rfl) ⟨(decide_eq_true h1), h2, (decide_eq_true h3), h4, (beq_iff_eq.mpr h5), trivial⟩ get_spec_trIs (by decide)

theorem spec_trIs_p2 (a0 : ByteArray) (c1 : Int) (c2 : Int)
    (h1 : ((a0).size : Int) ≤ (33 : Int))
    (h2 : SC cfg.P i_spec_trCarets [.s (.v .str a0)] (.s (.v (.int .i64) c1)) [])
    (h3 : c1 ≤ (8 : Int))
    (h4 : SC cfg.P i_spec_trEnd [.s (.v .str a0), .s (.v (.int .i64) (0 : Int)), .s (.v (.int .i64) (0 : Int))] (.s (.v (.int .i64) c2)) [])
    (h5 : c2 ≠ ((a0).size : Int)) :
    SC cfg.P i_spec_trIs [.s (.v .str a0)] (.s (.v .bool false)) [] :=
  SC_of_run cfgOK (its := [.bool true, .res (.s (.v (.int .i64) c1)) [] [] [], .bool true, .res (.s (.v (.int .i64) c2)) [] [] [], .bool false])
    (ps := [decide (((a0).size : Int) ≤ (33 : Int)) = true,
      SC cfg.P i_spec_trCarets [.s (.v .str a0)] (.s (.v (.int .i64) c1)) [],
      decide (c1 ≤ (8 : Int)) = true,
      SC cfg.P i_spec_trEnd [.s (.v .str a0), .s (.v (.int .i64) (0 : Int)), .s (.v (.int .i64) (0 : Int))] (.s (.v (.int .i64) c2)) [],
      (c2 == ((a0).size : Int)) = false]) (by kernel_rfl) ⟨(decide_eq_true h1), h2, (decide_eq_true h3), h4, (beq_eq_false_iff_ne.mpr h5), trivial⟩ get_spec_trIs (by decide)

theorem spec_trIs_p3 (a0 : ByteArray) (c1 : Int)
    (h1 : ((a0).size : Int) ≤ (33 : Int))
    (h2 : SC cfg.P i_spec_trCarets [.s (.v .str a0)] (.s (.v (.int .i64) c1)) [])
    (h3 : ¬ (c1 ≤ (8 : Int))) :
    SC cfg.P i_spec_trIs [.s (.v .str a0)] (.s (.v .bool false)) [] :=
  SC_of_run cfgOK (its := [.bool true, .res (.s (.v (.int .i64) c1)) [] [] [], .bool false])
    (ps := [decide (((a0).size : Int) ≤ (33 : Int)) = true,
      SC cfg.P i_spec_trCarets [.s (.v .str a0)] (.s (.v (.int .i64) c1)) [],
      decide (c1 ≤ (8 : Int)) = false]) (by kernel_rfl) ⟨(decide_eq_true h1), h2, (decide_eq_false h3), trivial⟩ get_spec_trIs (by decide)

theorem spec_trIs_p4 (a0 : ByteArray)
    (h1 : ¬ (((a0).size : Int) ≤ (33 : Int))) :
    SC cfg.P i_spec_trIs [.s (.v .str a0)] (.s (.v .bool false)) [] :=
  SC_of_run cfgOK (its := [.bool false])
    (ps := [decide (((a0).size : Int) ≤ (33 : Int)) = false]) (by kernel_rfl) ⟨(decide_eq_false h1), trivial⟩ get_spec_trIs (by decide)

/-! ### spec_trCarets -/


def spec_trCarets_L0a (x0 : ByteArray) (x3 : Int) (x4 : Int) : St := mkSt 18 [(0, .s (.v .str x0)), (3, .s (.v (.int .i64) x3)), (4, .s (.v (.int .i64) x4))] []

def spec_trCarets_L0X1 (y0 : ByteArray) (y3 : Int) (y4 : Int) (y8 : Bool) : St := mkSt 18 [(0, .s (.v .str y0)), (3, .s (.v (.int .i64) y3)), (4, .s (.v (.int .i64) y4)), (8, .s (.v .bool y8))] []

theorem spec_trCarets_L0a_i1 (x0 : ByteArray) (x3 : Int) (x4 : Int)
    (h1 : x4 < ((x0).size : Int))
    (h2 : 0 ≤ x4)
    (h3 : (bt x0 x4) = (40 : Int))
    {e : AEx} {st : St} (next : LoopSC cfg.P 1 (lb P_spec_trCarets 0) (spec_trCarets_L0a x0 (IntKind.wrap .i64 (x3 + (1 : Int))) (IntKind.wrap .i64 (x4 + (1 : Int)))) e st) :
    LoopSC cfg.P 1 (lb P_spec_trCarets 0) (spec_trCarets_L0a x0 x3 x4) e st :=
  loop_iter cfgOK (f := i_spec_trCarets) (its := [.bool true, .bool true])
    (ps := [decide (x4 < ((x0).size : Int)) = true,
      0 ≤ x4,
      x4 < ((x0).size : Int),
      ((bt x0 x4) == (40 : Int)) = true]) (st1 := spec_trCarets_L0a x0 (IntKind.wrap .i64 (x3 + (1 : Int))) (IntKind.wrap .i64 (x4 + (1 : Int)))) (by kernel_rfl) ⟨(decide_eq_true h1), h2, h1, (beq_iff_eq.mpr h3), trivial⟩ next

theorem spec_trCarets_L0a_i2 (x0 : ByteArray) (x3 : Int) (x4 : Int)
    (h1 : x4 < ((x0).size : Int))
    (h2 : 0 ≤ x4)
    (h3 : (bt x0 x4) ≠ (40 : Int))
    {e : AEx} {st : St} (next : LoopSC cfg.P 1 (lb P_spec_trCarets 0) (spec_trCarets_L0a x0 x3 (IntKind.wrap .i64 (x4 + (1 : Int)))) e st) :
    LoopSC cfg.P 1 (lb P_spec_trCarets 0) (spec_trCarets_L0a x0 x3 x4) e st :=
  loop_iter cfgOK (f := i_spec_trCarets) (its := [.bool true, .bool false])
    (ps := [decide (x4 < ((x0).size : Int)) = true,
      0 ≤ x4,
      x4 < ((x0).size : Int),
      ((bt x0 x4) == (40 : Int)) = false]) (st1 := spec_trCarets_L0a x0 x3 (IntKind.wrap .i64 (x4 + (1 : Int)))) (by kernel_rfl) ⟨(decide_eq_true h1), h2, h1, (beq_eq_false_iff_ne.mpr h3), trivial⟩ next

theorem spec_trCarets_L0a_x3 (x0 : ByteArray) (x3 : Int) (x4 : Int)
    (h1 : ¬ (x4 < ((x0).size : Int))) :
    LoopSC cfg.P 1 (lb P_spec_trCarets 0) (spec_trCarets_L0a x0 x3 x4) (.exit 0) (spec_trCarets_L0X1 x0 x3 x4 false) :=
  loop_out cfgOK (f := i_spec_trCarets) (its := [.bool false])
    (ps := [decide (x4 < ((x0).size : Int)) = false]) (by kernel_rfl) ⟨(decide_eq_false h1), trivial⟩ (fun h => by cases h)

theorem spec_trCarets_p1 (a0 : ByteArray) (k1y0 : ByteArray) (k1y3 : Int) (k1y4 : Int) (k1y8 : Bool)
    (h1 : LoopSC cfg.P 1 (lb P_spec_trCarets 0) (spec_trCarets_L0a a0 (0 : Int) (0 : Int)) (.exit 0) (spec_trCarets_L0X1 k1y0 k1y3 k1y4 k1y8)) :
    SC cfg.P i_spec_trCarets [.s (.v .str a0)] (.s (.v (.int .i64) k1y3)) [] :=
  SC_of_run cfgOK (its := [.loop (fun _ => (.exit 0, spec_trCarets_L0X1 k1y0 k1y3 k1y4 k1y8))])
    (ps := [LoopSC cfg.P 1 (lb P_spec_trCarets 0) (spec_trCarets_L0a a0 (0 : Int) (0 : Int)) (.exit 0) (spec_trCarets_L0X1 k1y0 k1y3 k1y4 k1y8)]) (by kernel_rfl) ⟨h1, trivial⟩ get_spec_trCarets (by decide)

/-! ### spec_trOf -/


theorem spec_trOf_p1 (a0 : ByteArray) (a1 : ByteArray)
    (h1 : ((⟨#[40]⟩ : ByteArray)).size + (a0).size ≤ 2 ^ 62)
    (h2 : (((⟨#[40]⟩ : ByteArray) ++ a0)).size + (a1).size ≤ 2 ^ 62)
    (h3 : ((((⟨#[40]⟩ : ByteArray) ++ a0) ++ a1)).size + ((⟨#[41]⟩ : ByteArray)).size ≤ 2 ^ 62) :
    SC cfg.P i_spec_trOf [.s (.v .str a0), .s (.v .str a1)] (.s (.v .str ((((⟨#[40]⟩ : ByteArray) ++ a0) ++ a1) ++ (⟨#[41]⟩ : ByteArray)))) [] :=
  SC_of_run cfgOK (its := [])
    (ps := [((⟨#[40]⟩ : ByteArray)).size + (a0).size ≤ 2 ^ 62,
      (((⟨#[40]⟩ : ByteArray) ++ a0)).size + (a1).size ≤ 2 ^ 62,
      ((((⟨#[40]⟩ : ByteArray) ++ a0) ++ a1)).size + ((⟨#[41]⟩ : ByteArray)).size ≤ 2 ^ 62]) (by kernel_rfl) ⟨h1, h2, h3, trivial⟩ get_spec_trOf (by decide)

/-! ### impl_parse -/


theorem impl_parse_p1 (a0 : ByteArray)
    (h1 : ((a0).size : Int) > (25 : Int)) :
    SC cfg.P i_impl_parse [.s (.v .str a0)] (.tup [.v .tree Tr.leaf, .v .bool false]) [] :=
  SC_of_run cfgOK (its := [.bool true])
    (ps := [decide (((a0).size : Int) > (25 : Int)) = true]) (by kernel_rfl) ⟨(decide_eq_true h1), trivial⟩ get_impl_parse (by decide)

theorem impl_parse_p2 (a0 : ByteArray) (c1a : Tr) (c1b : ByteArray)
    (h1 : ¬ (((a0).size : Int) > (25 : Int)))
    (h2 : SC cfg.P i_impl_read [.s (.v .str a0)] (.tup [.v .tree c1a, .v .str c1b, .v .bool true]) [])
    (h3 : c1b ≠ (⟨#[]⟩ : ByteArray)) :
    SC cfg.P i_impl_parse [.s (.v .str a0)] (.tup [.v .tree Tr.leaf, .v .bool false]) [] :=
  SC_of_run cfgOK (its := [.bool false, .res (.tup [.v .tree c1a, .v .str c1b, .v .bool true]) [] [] [], .bool true])
    (ps := [decide (((a0).size : Int) > (25 : Int)) = false,
      SC cfg.P i_impl_read [.s (.v .str a0)] (.tup [.v .tree c1a, .v .str c1b, .v .bool true]) [],
      (!((c1b).toList == ((⟨#[]⟩ : ByteArray)).toList)) = true]) (by kernel_rfl) ⟨(decide_eq_false h1), h2, (nseq_t h3), trivial⟩ get_impl_parse (by decide)

theorem impl_parse_p3 (a0 : ByteArray) (c1a : Tr) (c1b : ByteArray) (c2 : Int)
    (h1 : ¬ (((a0).size : Int) > (25 : Int)))
    (h2 : SC cfg.P i_impl_read [.s (.v .str a0)] (.tup [.v .tree c1a, .v .str c1b, .v .bool true]) [])
    (h3 : c1b = (⟨#[]⟩ : ByteArray))
    (h4 : SC cfg.P i_impl_node_carets [.s (.v .tree c1a)] (.s (.v (.int .i64) c2)) [])
    (h5 : c2 > (8 : Int)) :
    SC cfg.P i_impl_parse [.s (.v .str a0)] (.tup [.v .tree Tr.leaf, .v .bool false]) [] :=
  SC_of_run cfgOK (its := [.bool false, .res (.tup [.v .tree c1a, .v .str c1b, .v .bool true]) [] [] [], .bool false, .res (.s (.v (.int .i64) c2)) [] [] [], .bool true])
    (ps := [decide (((a0).size : Int) > (25 : Int)) = false,
      SC cfg.P i_impl_read [.s (.v .str a0)] (.tup [.v .tree c1a, .v .str c1b, .v .bool true]) [],
      (!((c1b).toList == ((⟨#[]⟩ : ByteArray)).toList)) = false,
      SC cfg.P i_impl_node_carets [.s (.v .tree c1a)] (.s (.v (.int .i64) c2)) [],
      decide (c2 > (8 : Int)) = true]) (by kernel_rfl) ⟨(decide_eq_false h1), h2, (nseq_f h3), h4, (decide_eq_true h5), trivial⟩ get_impl_parse (by decide)

theorem impl_parse_p4 (a0 : ByteArray) (c1a : Tr) (c1b : ByteArray) (c2 : Int)
    (h1 : ¬ (((a0).size : Int) > (25 : Int)))
    (h2 : SC cfg.P i_impl_read [.s (.v .str a0)] (.tup [.v .tree c1a, .v .str c1b, .v .bool true]) [])
    (h3 : c1b = (⟨#[]⟩ : ByteArray))
    (h4 : SC cfg.P i_impl_node_carets [.s (.v .tree c1a)] (.s (.v (.int .i64) c2)) [])
    (h5 : ¬ (c2 > (8 : Int))) :
    SC cfg.P i_impl_parse [.s (.v .str a0)] (.tup [.v .tree c1a, .v .bool true]) [] :=
  SC_of_run cfgOK (its := [.bool false, .res (.tup [.v .tree c1a, .v .str c1b, .v .bool true]) [] [] [], .bool false, .res (.s (.v (.int .i64) c2)) [] [] [], .bool false])
    (ps := [decide (((a0).size : Int) > (25 : Int)) = false,
      SC cfg.P i_impl_read [.s (.v .str a0)] (.tup [.v .tree c1a, .v .str c1b, .v .bool true]) [],
      (!((c1b).toList == ((⟨#[]⟩ : ByteArray)).toList)) = false,
      SC cfg.P i_impl_node_carets [.s (.v .tree c1a)] (.s (.v (.int .i64) c2)) [],
      decide (c2 > (8 : Int)) = false]) (by kernel_rfl) ⟨(decide_eq_false h1), h2, (nseq_f h3), h4, (decide_eq_false h5), trivial⟩ get_impl_parse (by decide)

theorem impl_parse_p5 (a0 : ByteArray) (c1a : Tr) (c1b : ByteArray)
    (h1 : ¬ (((a0).size : Int) > (25 : Int)))
    (h2 : SC cfg.P i_impl_read [.s (.v .str a0)] (.tup [.v .tree c1a, .v .str c1b, .v .bool false]) []) :
    SC cfg.P i_impl_parse [.s (.v .str a0)] (.tup [.v .tree Tr.leaf, .v .bool false]) [] :=
  SC_of_run cfgOK (its := [.bool false, .res (.tup [.v .tree c1a, .v .str c1b, .v .bool false]) [] [] []])
    (ps := [decide (((a0).size : Int) > (25 : Int)) = false,
      SC cfg.P i_impl_read [.s (.v .str a0)] (.tup [.v .tree c1a, .v .str c1b, .v .bool false]) []]) (by kernel_rfl) ⟨(decide_eq_false h1), h2, trivial⟩ get_impl_parse (by decide)

/-! ### spec_trEnd -/


theorem spec_trEnd_p1 (a0 : ByteArray) (a1 : Int) (a2 : Int)
    (h1 : a1 ≥ ((a0).size : Int)) :
    SC cfg.P i_spec_trEnd [.s (.v .str a0), .s (.v (.int .i64) a1), .s (.v (.int .i64) a2)] (.s (.v (.int .i64) (-1 : Int))) [] :=
  SC_of_run cfgOK (its := [.bool true])
    (ps := [decide (a1 ≥ ((a0).size : Int)) = true]) (by kernel_rfl) ⟨(decide_eq_true h1), trivial⟩ get_spec_trEnd (by decide)

theorem spec_trEnd_p2 (a0 : ByteArray) (a1 : Int) (a2 : Int)
    (h1 : ¬ (a1 ≥ ((a0).size : Int)))
    (h2 : a2 > (60 : Int)) :
    SC cfg.P i_spec_trEnd [.s (.v .str a0), .s (.v (.int .i64) a1), .s (.v (.int .i64) a2)] (.s (.v (.int .i64) (-1 : Int))) [] :=
  SC_of_run cfgOK (its := [.bool false, .bool true])
    (ps := [decide (a1 ≥ ((a0).size : Int)) = false,
      decide (a2 > (60 : Int)) = true]) (by kernel_rfl) ⟨(decide_eq_false h1), (decide_eq_true h2), trivial⟩ get_spec_trEnd (by decide)

theorem spec_trEnd_p3 (a0 : ByteArray) (a1 : Int) (a2 : Int)
    (h1 : ¬ (a1 ≥ ((a0).size : Int)))
    (h2 : ¬ (a2 > (60 : Int)))
    (h3 : 0 ≤ a1)
    (h4 : a1 < ((a0).size : Int))
    (h5 : (bt a0 a1) = (46 : Int)) :
    SC cfg.P i_spec_trEnd [.s (.v .str a0), .s (.v (.int .i64) a1), .s (.v (.int .i64) a2)] (.s (.v (.int .i64) (IntKind.wrap .i64 (a1 + (1 : Int))))) [] :=
  SC_of_run cfgOK (its := [.bool false, .bool false, .bool true])
    (ps := [decide (a1 ≥ ((a0).size : Int)) = false,
      decide (a2 > (60 : Int)) = false,
      0 ≤ a1,
      a1 < ((a0).size : Int),
      ((bt a0 a1) == (46 : Int)) = true]) (by kernel_rfl) ⟨(decide_eq_false h1), (decide_eq_false h2), h3, h4, (beq_iff_eq.mpr h5), trivial⟩ get_spec_trEnd (by decide)

theorem spec_trEnd_p4 (a0 : ByteArray) (a1 : Int) (a2 : Int)
    (h1 : ¬ (a1 ≥ ((a0).size : Int)))
    (h2 : ¬ (a2 > (60 : Int)))
    (h3 : 0 ≤ a1)
    (h4 : a1 < ((a0).size : Int))
    (h5 : (bt a0 a1) ≠ (46 : Int))
    (h6 : (bt a0 a1) ≠ (40 : Int)) :
    SC cfg.P i_spec_trEnd [.s (.v .str a0), .s (.v (.int .i64) a1), .s (.v (.int .i64) a2)] (.s (.v (.int .i64) (-1 : Int))) [] :=
  SC_of_run cfgOK (its := [.bool false, .bool false, .bool false, .bool true])
    (ps := [decide (a1 ≥ ((a0).size : Int)) = false,
      decide (a2 > (60 : Int)) = false,
      0 ≤ a1,
      a1 < ((a0).size : Int),
      ((bt a0 a1) == (46 : Int)) = false,
      0 ≤ a1,
      a1 < ((a0).size : Int),
      ((bt a0 a1) != (40 : Int)) = true]) (by kernel_rfl) ⟨(decide_eq_false h1), (decide_eq_false h2), h3, h4, (beq_eq_false_iff_ne.mpr h5), h3, h4, (bne_iff_ne.mpr h6), trivial⟩ get_spec_trEnd (by decide)

theorem spec_trEnd_p5 (a0 : ByteArray) (a1 : Int) (a2 : Int) (c1 : Int)
    (h1 : ¬ (a1 ≥ ((a0).size : Int)))
    (h2 : ¬ (a2 > (60 : Int)))
    (h3 : 0 ≤ a1)
    (h4 : a1 < ((a0).size : Int))
    (h5 : (bt a0 a1) ≠ (46 : Int))
    (h6 : (bt a0 a1) = (40 : Int))
    (h7 : SC cfg.P i_spec_trEnd [.s (.v .str a0), .s (.v (.int .i64) (IntKind.wrap .i64 (a1 + (1 : Int)))), .s (.v (.int .i64) (IntKind.wrap .i64 (a2 + (1 : Int))))] (.s (.v (.int .i64) c1)) [])
    (h8 : c1 < (0 : Int)) :
    SC cfg.P i_spec_trEnd [.s (.v .str a0), .s (.v (.int .i64) a1), .s (.v (.int .i64) a2)] (.s (.v (.int .i64) (-1 : Int))) [] :=
  SC_of_run cfgOK (its := [.bool false, .bool false, .bool false, .bool false, .res (.s (.v (.int .i64) c1)) [] [] [], .bool true])
    (ps := [decide (a1 ≥ ((a0).size : Int)) = false,
      decide (a2 > (60 : Int)) = false,
      0 ≤ a1,
      a1 < ((a0).size : Int),
      ((bt a0 a1) == (46 : Int)) = false,
      0 ≤ a1,
      a1 < ((a0).size : Int),
      ((bt a0 a1) != (40 : Int)) = false,
      SC cfg.P i_spec_trEnd [.s (.v .str a0), .s (.v (.int .i64) (IntKind.wrap .i64 (a1 + (1 : Int)))), .s (.v (.int .i64) (IntKind.wrap .i64 (a2 + (1 : Int))))] (.s (.v (.int .i64) c1)) [],
      decide (c1 < (0 : Int)) = true]) (by kernel_rfl) ⟨(decide_eq_false h1), (decide_eq_false h2), h3, h4, (beq_eq_false_iff_ne.mpr h5), h3, h4, (bne_eq_false_iff_eq.mpr h6), h7, (decide_eq_true h8), trivial⟩ get_spec_trEnd (by decide)

theorem spec_trEnd_p6 (a0 : ByteArray) (a1 : Int) (a2 : Int) (c1 : Int) (c2 : Int)
    (h1 : ¬ (a1 ≥ ((a0).size : Int)))
    (h2 : ¬ (a2 > (60 : Int)))
    (h3 : 0 ≤ a1)
    (h4 : a1 < ((a0).size : Int))
    (h5 : (bt a0 a1) ≠ (46 : Int))
    (h6 : (bt a0 a1) = (40 : Int))
    (h7 : SC cfg.P i_spec_trEnd [.s (.v .str a0), .s (.v (.int .i64) (IntKind.wrap .i64 (a1 + (1 : Int)))), .s (.v (.int .i64) (IntKind.wrap .i64 (a2 + (1 : Int))))] (.s (.v (.int .i64) c1)) [])
    (h8 : ¬ (c1 < (0 : Int)))
    (h9 : SC cfg.P i_spec_trEnd [.s (.v .str a0), .s (.v (.int .i64) c1), .s (.v (.int .i64) (IntKind.wrap .i64 (a2 + (1 : Int))))] (.s (.v (.int .i64) c2)) [])
    (h10 : c2 < (0 : Int)) :
    SC cfg.P i_spec_trEnd [.s (.v .str a0), .s (.v (.int .i64) a1), .s (.v (.int .i64) a2)] (.s (.v (.int .i64) (-1 : Int))) [] :=
  SC_of_run cfgOK (its := [.bool false, .bool false, .bool false, .bool false, .res (.s (.v (.int .i64) c1)) [] [] [], .bool false, .res (.s (.v (.int .i64) c2)) [] [] [], .bool true])
    (ps := [decide (a1 ≥ ((a0).size : Int)) = false,
      decide (a2 > (60 : Int)) = false,
      0 ≤ a1,
      a1 < ((a0).size : Int),
      ((bt a0 a1) == (46 : Int)) = false,
      0 ≤ a1,
      a1 < ((a0).size : Int),
      ((bt a0 a1) != (40 : Int)) = false,
      SC cfg.P i_spec_trEnd [.s (.v .str a0), .s (.v (.int .i64) (IntKind.wrap .i64 (a1 + (1 : Int)))), .s (.v (.int .i64) (IntKind.wrap .i64 (a2 + (1 : Int))))] (.s (.v (.int .i64) c1)) [],
      decide (c1 < (0 : Int)) = false,
      SC cfg.P i_spec_trEnd [.s (.v .str a0), .s (.v (.int .i64) c1), .s (.v (.int .i64) (IntKind.wrap .i64 (a2 + (1 : Int))))] (.s (.v (.int .i64) c2)) [],
      decide (c2 < (0 : Int)) = true]) (by kernel_rfl) ⟨(decide_eq_false h1), (decide_eq_false h2), h3, h4, (beq_eq_false_iff_ne.mpr h5), h3, h4, (bne_eq_false_iff_eq.mpr h6), h7, (decide_eq_false h8), h9, (decide_eq_true h10), trivial⟩ get_spec_trEnd (by decide)

theorem spec_trEnd_p7 (a0 : ByteArray) (a1 : Int) (a2 : Int) (c1 : Int) (c2 : Int)
    (h1 : ¬ (a1 ≥ ((a0).size : Int)))
    (h2 : ¬ (a2 > (60 : Int)))
    (h3 : 0 ≤ a1)
    (h4 : a1 < ((a0).size : Int))
    (h5 : (bt a0 a1) ≠ (46 : Int))
    (h6 : (bt a0 a1) = (40 : Int))
    (h7 : SC cfg.P i_spec_trEnd [.s (.v .str a0), .s (.v (.int .i64) (IntKind.wrap .i64 (a1 + (1 : Int)))), .s (.v (.int .i64) (IntKind.wrap .i64 (a2 + (1 : Int))))] (.s (.v (.int .i64) c1)) [])
    (h8 : ¬ (c1 < (0 : Int)))
    (h9 : SC cfg.P i_spec_trEnd [.s (.v .str a0), .s (.v (.int .i64) c1), .s (.v (.int .i64) (IntKind.wrap .i64 (a2 + (1 : Int))))] (.s (.v (.int .i64) c2)) [])
    (h10 : ¬ (c2 < (0 : Int)))
    (h11 : c2 ≥ ((a0).size : Int)) :
    SC cfg.P i_spec_trEnd [.s (.v .str a0), .s (.v (.int .i64) a1), .s (.v (.int .i64) a2)] (.s (.v (.int .i64) (-1 : Int))) [] :=
  SC_of_run cfgOK (its := [.bool false, .bool false, .bool false, .bool false, .res (.s (.v (.int .i64) c1)) [] [] [], .bool false, .res (.s (.v (.int .i64) c2)) [] [] [], .bool false, .bool true])
    (ps := [decide (a1 ≥ ((a0).size : Int)) = false,
      decide (a2 > (60 : Int)) = false,
      0 ≤ a1,
      a1 < ((a0).size : Int),
      ((bt a0 a1) == (46 : Int)) = false,
      0 ≤ a1,
      a1 < ((a0).size : Int),
      ((bt a0 a1) != (40 : Int)) = false,
      SC cfg.P i_spec_trEnd [.s (.v .str a0), .s (.v (.int .i64) (IntKind.wrap .i64 (a1 + (1 : Int)))), .s (.v (.int .i64) (IntKind.wrap .i64 (a2 + (1 : Int))))] (.s (.v (.int .i64) c1)) [],
      decide (c1 < (0 : Int)) = false,
      SC cfg.P i_spec_trEnd [.s (.v .str a0), .s (.v (.int .i64) c1), .s (.v (.int .i64) (IntKind.wrap .i64 (a2 + (1 : Int))))] (.s (.v (.int .i64) c2)) [],
      decide (c2 < (0 : Int)) = false,
      decide (c2 ≥ ((a0).size : Int)) = true]) (by kernel_rfl) ⟨(decide_eq_false h1), (decide_eq_false h2), h3, h4, (beq_eq_false_iff_ne.mpr h5), h3, h4, (bne_eq_false_iff_eq.mpr h6), h7, (decide_eq_false h8), h9, (decide_eq_false h10), (decide_eq_true h11), trivial⟩ get_spec_trEnd (by decide)

theorem spec_trEnd_p8 (a0 : ByteArray) (a1 : Int) (a2 : Int) (c1 : Int) (c2 : Int)
    (h1 : ¬ (a1 ≥ ((a0).size : Int)))
    (h2 : ¬ (a2 > (60 : Int)))
    (h3 : 0 ≤ a1)
    (h4 : a1 < ((a0).size : Int))
    (h5 : (bt a0 a1) ≠ (46 : Int))
    (h6 : (bt a0 a1) = (40 : Int))
    (h7 : SC cfg.P i_spec_trEnd [.s (.v .str a0), .s (.v (.int .i64) (IntKind.wrap .i64 (a1 + (1 : Int)))), .s (.v (.int .i64) (IntKind.wrap .i64 (a2 + (1 : Int))))] (.s (.v (.int .i64) c1)) [])
    (h8 : ¬ (c1 < (0 : Int)))
    (h9 : SC cfg.P i_spec_trEnd [.s (.v .str a0), .s (.v (.int .i64) c1), .s (.v (.int .i64) (IntKind.wrap .i64 (a2 + (1 : Int))))] (.s (.v (.int .i64) c2)) [])
    (h10 : ¬ (c2 < (0 : Int)))
    (h11 : ¬ (c2 ≥ ((a0).size : Int)))
    (h12 : 0 ≤ c2)
    (h13 : c2 < ((a0).size : Int))
    (h14 : (bt a0 c2) ≠ (41 : Int)) :
    SC cfg.P i_spec_trEnd [.s (.v .str a0), .s (.v (.int .i64) a1), .s (.v (.int .i64) a2)] (.s (.v (.int .i64) (-1 : Int))) [] :=
  SC_of_run cfgOK (its := [.bool false, .bool false, .bool false, .bool false, .res (.s (.v (.int .i64) c1)) [] [] [], .bool false, .res (.s (.v (.int .i64) c2)) [] [] [], .bool false, .bool false, .bool true])
    (ps := [decide (a1 ≥ ((a0).size : Int)) = false,
      decide (a2 > (60 : Int)) = false,
      0 ≤ a1,
      a1 < ((a0).size : Int),
      ((bt a0 a1) == (46 : Int)) = false,
      0 ≤ a1,
      a1 < ((a0).size : Int),
      ((bt a0 a1) != (40 : Int)) = false,
      SC cfg.P i_spec_trEnd [.s (.v .str a0), .s (.v (.int .i64) (IntKind.wrap .i64 (a1 + (1 : Int)))), .s (.v (.int .i64) (IntKind.wrap .i64 (a2 + (1 : Int))))] (.s (.v (.int .i64) c1)) [],
      decide (c1 < (0 : Int)) = false,
      SC cfg.P i_spec_trEnd [.s (.v .str a0), .s (.v (.int .i64) c1), .s (.v (.int .i64) (IntKind.wrap .i64 (a2 + (1 : Int))))] (.s (.v (.int .i64) c2)) [],
      decide (c2 < (0 : Int)) = false,
      decide (c2 ≥ ((a0).size : Int)) = false,
      0 ≤ c2,
      c2 < ((a0).size : Int),
      ((bt a0 c2) != (41 : Int)) = true]) (by kernel_rfl) ⟨(decide_eq_false h1), (decide_eq_false h2), h3, h4, (beq_eq_false_iff_ne.mpr h5), h3, h4, (bne_eq_false_iff_eq.mpr h6), h7, (decide_eq_false h8), h9, (decide_eq_false h10), (decide_eq_false h11), h12, h13, (bne_iff_ne.mpr h14), trivial⟩ get_spec_trEnd (by decide)

theorem spec_trEnd_p9 (a0 : ByteArray) (a1 : Int) (a2 : Int) (c1 : Int) (c2 : Int)
    (h1 : ¬ (a1 ≥ ((a0).size : Int)))
    (h2 : ¬ (a2 > (60 : Int)))
    (h3 : 0 ≤ a1)
    (h4 : a1 < ((a0).size : Int))
    (h5 : (bt a0 a1) ≠ (46 : Int))
    (h6 : (bt a0 a1) = (40 : Int))
    (h7 : SC cfg.P i_spec_trEnd [.s (.v .str a0), .s (.v (.int .i64) (IntKind.wrap .i64 (a1 + (1 : Int)))), .s (.v (.int .i64) (IntKind.wrap .i64 (a2 + (1 : Int))))] (.s (.v (.int .i64) c1)) [])
    (h8 : ¬ (c1 < (0 : Int)))
    (h9 : SC cfg.P i_spec_trEnd [.s (.v .str a0), .s (.v (.int .i64) c1), .s (.v (.int .i64) (IntKind.wrap .i64 (a2 + (1 : Int))))] (.s (.v (.int .i64) c2)) [])
    (h10 : ¬ (c2 < (0 : Int)))
    (h11 : ¬ (c2 ≥ ((a0).size : Int)))
    (h12 : 0 ≤ c2)
    (h13 : c2 < ((a0).size : Int))
    (h14 : (bt a0 c2) = (41 : Int)) :
    SC cfg.P i_spec_trEnd [.s (.v .str a0), .s (.v (.int .i64) a1), .s (.v (.int .i64) a2)] (.s (.v (.int .i64) (IntKind.wrap .i64 (c2 + (1 : Int))))) [] :=
  SC_of_run cfgOK (its := [.bool false, .bool false, .bool false, .bool false, .res (.s (.v (.int .i64) c1)) [] [] [], .bool false, .res (.s (.v (.int .i64) c2)) [] [] [], .bool false, .bool false, .bool false])
    (ps := [decide (a1 ≥ ((a0).size : Int)) = false,
      decide (a2 > (60 : Int)) = false,
      0 ≤ a1,
      a1 < ((a0).size : Int),
      ((bt a0 a1) == (46 : Int)) = false,
      0 ≤ a1,
      a1 < ((a0).size : Int),
      ((bt a0 a1) != (40 : Int)) = false,
      SC cfg.P i_spec_trEnd [.s (.v .str a0), .s (.v (.int .i64) (IntKind.wrap .i64 (a1 + (1 : Int)))), .s (.v (.int .i64) (IntKind.wrap .i64 (a2 + (1 : Int))))] (.s (.v (.int .i64) c1)) [],
      decide (c1 < (0 : Int)) = false,
      SC cfg.P i_spec_trEnd [.s (.v .str a0), .s (.v (.int .i64) c1), .s (.v (.int .i64) (IntKind.wrap .i64 (a2 + (1 : Int))))] (.s (.v (.int .i64) c2)) [],
      decide (c2 < (0 : Int)) = false,
      decide (c2 ≥ ((a0).size : Int)) = false,
      0 ≤ c2,
      c2 < ((a0).size : Int),
      ((bt a0 c2) != (41 : Int)) = false]) (by kernel_rfl) ⟨(decide_eq_false h1), (decide_eq_false h2), h3, h4, (beq_eq_false_iff_ne.mpr h5), h3, h4, (bne_eq_false_iff_eq.mpr h6), h7, (decide_eq_false h8), h9, (decide_eq_false h10), (decide_eq_false h11), h12, h13, (bne_eq_false_iff_eq.mpr h14), trivial⟩ get_spec_trEnd (by decide)

/-! ### spec_trLeaf -/


theorem spec_trLeaf_p1 (a0 : ByteArray)
    (h1 : a0 = (⟨#[46]⟩ : ByteArray)) :
    SC cfg.P i_spec_trLeaf [.s (.v .str a0)] (.s (.v .bool true)) [] :=
  SC_of_run cfgOK (its := [.bool true])
    (ps := [((a0).toList == ((⟨#[46]⟩ : ByteArray)).toList) = true]) (by kernel_rfl) ⟨(seq_t h1), trivial⟩ get_spec_trLeaf (by decide)

theorem spec_trLeaf_p2 (a0 : ByteArray)
    (h1 : a0 ≠ (⟨#[46]⟩ : ByteArray)) :
    SC cfg.P i_spec_trLeaf [.s (.v .str a0)] (.s (.v .bool false)) [] :=
  SC_of_run cfgOK (its := [.bool false])
    (ps := [((a0).toList == ((⟨#[46]⟩ : ByteArray)).toList) = false]) (by kernel_rfl) ⟨(seq_f h1), trivial⟩ get_spec_trLeaf (by decide)

/-! ### spec_trSides -/


theorem spec_trSides_p1 (a0 : ByteArray) (c1 : Int)
    (h1 : SC cfg.P i_spec_trEnd [.s (.v .str a0), .s (.v (.int .i64) (1 : Int)), .s (.v (.int .i64) (0 : Int))] (.s (.v (.int .i64) c1)) [])
    (h2 : (1 : Int) ≤ c1)
    (h3 : c1 ≤ ((a0).size : Int))
    (h4 : 0 ≤ c1)
    (h5 : c1 ≤ (IntKind.wrap .i64 (((a0).size : Int) - (1 : Int))))
    (h6 : (IntKind.wrap .i64 (((a0).size : Int) - (1 : Int))) ≤ ((a0).size : Int)) :
    SC cfg.P i_spec_trSides [.s (.v .str a0)] (.tup [.v .str (ByteArray.extract a0 ((1 : Int)).toNat (c1).toNat), .v .str (ByteArray.extract a0 (c1).toNat ((IntKind.wrap .i64 (((a0).size : Int) - (1 : Int)))).toNat)]) [] :=
  SC_of_run cfgOK (its := [.res (.s (.v (.int .i64) c1)) [] [] []])
    (ps := [SC cfg.P i_spec_trEnd [.s (.v .str a0), .s (.v (.int .i64) (1 : Int)), .s (.v (.int .i64) (0 : Int))] (.s (.v (.int .i64) c1)) [],
      0 ≤ (1 : Int),
      (1 : Int) ≤ c1,
      c1 ≤ ((a0).size : Int),
      0 ≤ c1,
      c1 ≤ (IntKind.wrap .i64 (((a0).size : Int) - (1 : Int))),
      (IntKind.wrap .i64 (((a0).size : Int) - (1 : Int))) ≤ ((a0).size : Int)]) (by kernel_rfl) ⟨h1, (by decide), h2, h3, h4, h5, h6, trivial⟩ get_spec_trSides (by decide)

/-! ### impl_read -/


theorem impl_read_p1 (a0 : ByteArray)
    (h1 : a0 = (⟨#[]⟩ : ByteArray)) :
    SC cfg.P i_impl_read [.s (.v .str a0)] (.tup [.v .tree Tr.leaf, .v .str (⟨#[]⟩ : ByteArray), .v .bool false]) [] :=
  SC_of_run cfgOK (its := [.bool true])
    (ps := [((a0).toList == ((⟨#[]⟩ : ByteArray)).toList) = true]) (by kernel_rfl) ⟨(seq_t h1), trivial⟩ get_impl_read (by decide)

theorem impl_read_p2 (a0 : ByteArray)
    (h1 : a0 ≠ (⟨#[]⟩ : ByteArray))
    (h2 : (0 : Int) < ((a0).size : Int))
    (h3 : (bt a0 (0 : Int)) = (46 : Int))
    (h4 : (1 : Int) ≤ ((a0).size : Int)) :
    SC cfg.P i_impl_read [.s (.v .str a0)] (.tup [.v .tree Tr.leaf, .v .str (ByteArray.extract a0 ((1 : Int)).toNat (((a0).size : Int)).toNat), .v .bool true]) [] :=
  SC_of_run cfgOK (its := [.bool false, .bool true])
    (ps := [((a0).toList == ((⟨#[]⟩ : ByteArray)).toList) = false,
      0 ≤ (0 : Int),
      (0 : Int) < ((a0).size : Int),
      ((bt a0 (0 : Int)) == (46 : Int)) = true,
      0 ≤ (1 : Int),
      (1 : Int) ≤ ((a0).size : Int)]) (by kernel_rfl) ⟨(seq_f h1), (by decide), h2, (beq_iff_eq.mpr h3), (by decide), h4, trivial⟩ get_impl_read (by decide)

theorem impl_read_p3 (a0 : ByteArray)
    (h1 : a0 ≠ (⟨#[]⟩ : ByteArray))
    (h2 : (0 : Int) < ((a0).size : Int))
    (h3 : (bt a0 (0 : Int)) ≠ (46 : Int))
    (h4 : (bt a0 (0 : Int)) ≠ (40 : Int)) :
    SC cfg.P i_impl_read [.s (.v .str a0)] (.tup [.v .tree Tr.leaf, .v .str (⟨#[]⟩ : ByteArray), .v .bool false]) [] :=
  SC_of_run cfgOK (its := [.bool false, .bool false, .bool true])
    (ps := [((a0).toList == ((⟨#[]⟩ : ByteArray)).toList) = false,
      0 ≤ (0 : Int),
      (0 : Int) < ((a0).size : Int),
      ((bt a0 (0 : Int)) == (46 : Int)) = false,
      0 ≤ (0 : Int),
      (0 : Int) < ((a0).size : Int),
      ((bt a0 (0 : Int)) != (40 : Int)) = true]) (by kernel_rfl) ⟨(seq_f h1), (by decide), h2, (beq_eq_false_iff_ne.mpr h3), (by decide), h2, (bne_iff_ne.mpr h4), trivial⟩ get_impl_read (by decide)

theorem impl_read_p4 (a0 : ByteArray) (c1a : Tr) (c1b : ByteArray) (c2a : Tr) (c2b : ByteArray)
    (h1 : a0 ≠ (⟨#[]⟩ : ByteArray))
    (h2 : (0 : Int) < ((a0).size : Int))
    (h3 : (bt a0 (0 : Int)) ≠ (46 : Int))
    (h4 : (bt a0 (0 : Int)) = (40 : Int))
    (h5 : (1 : Int) ≤ ((a0).size : Int))
    (h6 : SC cfg.P i_impl_read [.s (.v .str (ByteArray.extract a0 ((1 : Int)).toNat (((a0).size : Int)).toNat))] (.tup [.v .tree c1a, .v .str c1b, .v .bool true]) [])
    (h7 : SC cfg.P i_impl_read [.s (.v .str c1b)] (.tup [.v .tree c2a, .v .str c2b, .v .bool true]) [])
    (h8 : c2b = (⟨#[]⟩ : ByteArray)) :
    SC cfg.P i_impl_read [.s (.v .str a0)] (.tup [.v .tree Tr.leaf, .v .str (⟨#[]⟩ : ByteArray), .v .bool false]) [] :=
  SC_of_run cfgOK (its := [.bool false, .bool false, .bool false, .res (.tup [.v .tree c1a, .v .str c1b, .v .bool true]) [] [] [], .res (.tup [.v .tree c2a, .v .str c2b, .v .bool true]) [] [] [], .bool true])
    (ps := [((a0).toList == ((⟨#[]⟩ : ByteArray)).toList) = false,
      0 ≤ (0 : Int),
      (0 : Int) < ((a0).size : Int),
      ((bt a0 (0 : Int)) == (46 : Int)) = false,
      0 ≤ (0 : Int),
      (0 : Int) < ((a0).size : Int),
      ((bt a0 (0 : Int)) != (40 : Int)) = false,
      0 ≤ (1 : Int),
      (1 : Int) ≤ ((a0).size : Int),
      SC cfg.P i_impl_read [.s (.v .str (ByteArray.extract a0 ((1 : Int)).toNat (((a0).size : Int)).toNat))] (.tup [.v .tree c1a, .v .str c1b, .v .bool true]) [],
      SC cfg.P i_impl_read [.s (.v .str c1b)] (.tup [.v .tree c2a, .v .str c2b, .v .bool true]) [],
      ((c2b).toList == ((⟨#[]⟩ : ByteArray)).toList) = true]) (by kernel_rfl) ⟨(seq_f h1), (by decide), h2, (beq_eq_false_iff_ne.mpr h3), (by decide), h2, (bne_eq_false_iff_eq.mpr h4), (by decide), h5, h6, h7, (seq_t h8), trivial⟩ get_impl_read (by decide)

theorem impl_read_p5 (a0 : ByteArray) (c1a : Tr) (c1b : ByteArray) (c2a : Tr) (c2b : ByteArray)
    (h1 : a0 ≠ (⟨#[]⟩ : ByteArray))
    (h2 : (0 : Int) < ((a0).size : Int))
    (h3 : (bt a0 (0 : Int)) ≠ (46 : Int))
    (h4 : (bt a0 (0 : Int)) = (40 : Int))
    (h5 : (1 : Int) ≤ ((a0).size : Int))
    (h6 : SC cfg.P i_impl_read [.s (.v .str (ByteArray.extract a0 ((1 : Int)).toNat (((a0).size : Int)).toNat))] (.tup [.v .tree c1a, .v .str c1b, .v .bool true]) [])
    (h7 : SC cfg.P i_impl_read [.s (.v .str c1b)] (.tup [.v .tree c2a, .v .str c2b, .v .bool true]) [])
    (h8 : c2b ≠ (⟨#[]⟩ : ByteArray))
    (h9 : (0 : Int) < ((c2b).size : Int))
    (h10 : (bt c2b (0 : Int)) ≠ (41 : Int)) :
    SC cfg.P i_impl_read [.s (.v .str a0)] (.tup [.v .tree Tr.leaf, .v .str (⟨#[]⟩ : ByteArray), .v .bool false]) [] :=
  SC_of_run cfgOK (its := [.bool false, .bool false, .bool false, .res (.tup [.v .tree c1a, .v .str c1b, .v .bool true]) [] [] [], .res (.tup [.v .tree c2a, .v .str c2b, .v .bool true]) [] [] [], .bool false, .bool true])
    (ps := [((a0).toList == ((⟨#[]⟩ : ByteArray)).toList) = false,
      0 ≤ (0 : Int),
      (0 : Int) < ((a0).size : Int),
      ((bt a0 (0 : Int)) == (46 : Int)) = false,
      0 ≤ (0 : Int),
      (0 : Int) < ((a0).size : Int),
      ((bt a0 (0 : Int)) != (40 : Int)) = false,
      0 ≤ (1 : Int),
      (1 : Int) ≤ ((a0).size : Int),
      SC cfg.P i_impl_read [.s (.v .str (ByteArray.extract a0 ((1 : Int)).toNat (((a0).size : Int)).toNat))] (.tup [.v .tree c1a, .v .str c1b, .v .bool true]) [],
      SC cfg.P i_impl_read [.s (.v .str c1b)] (.tup [.v .tree c2a, .v .str c2b, .v .bool true]) [],
      ((c2b).toList == ((⟨#[]⟩ : ByteArray)).toList) = false,
      0 ≤ (0 : Int),
      (0 : Int) < ((c2b).size : Int),
      ((bt c2b (0 : Int)) != (41 : Int)) = true]) (by kernel_rfl) ⟨(seq_f h1), (by decide), h2, (beq_eq_false_iff_ne.mpr h3), (by decide), h2, (bne_eq_false_iff_eq.mpr h4), (by decide), h5, h6, h7, (seq_f h8), (by decide), h9, (bne_iff_ne.mpr h10), trivial⟩ get_impl_read (by decide)

theorem impl_read_p6 (a0 : ByteArray) (c1a : Tr) (c1b : ByteArray) (c2a : Tr) (c2b : ByteArray)
    (h1 : a0 ≠ (⟨#[]⟩ : ByteArray))
    (h2 : (0 : Int) < ((a0).size : Int))
    (h3 : (bt a0 (0 : Int)) ≠ (46 : Int))
    (h4 : (bt a0 (0 : Int)) = (40 : Int))
    (h5 : (1 : Int) ≤ ((a0).size : Int))
    (h6 : SC cfg.P i_impl_read [.s (.v .str (ByteArray.extract a0 ((1 : Int)).toNat (((a0).size : Int)).toNat))] (.tup [.v .tree c1a, .v .str c1b, .v .bool true]) [])
    (h7 : SC cfg.P i_impl_read [.s (.v .str c1b)] (.tup [.v .tree c2a, .v .str c2b, .v .bool true]) [])
    (h8 : c2b ≠ (⟨#[]⟩ : ByteArray))
    (h9 : (0 : Int) < ((c2b).size : Int))
    (h10 : (bt c2b (0 : Int)) = (41 : Int))
    (h11 : (1 : Int) ≤ ((c2b).size : Int)) :
    SC cfg.P i_impl_read [.s (.v .str a0)] (.tup [.v .tree (Tr.node c1a c2a), .v .str (ByteArray.extract c2b ((1 : Int)).toNat (((c2b).size : Int)).toNat), .v .bool true]) [] :=
  SC_of_run cfgOK (its := [.bool false, .bool false, .bool false, .res (.tup [.v .tree c1a, .v .str c1b, .v .bool true]) [] [] [], .res (.tup [.v .tree c2a, .v .str c2b, .v .bool true]) [] [] [], .bool false, .bool false])
    (ps := [((a0).toList == ((⟨#[]⟩ : ByteArray)).toList) = false,
      0 ≤ (0 : Int),
      (0 : Int) < ((a0).size : Int),
      ((bt a0 (0 : Int)) == (46 : Int)) = false,
      0 ≤ (0 : Int),
      (0 : Int) < ((a0).size : Int),
      ((bt a0 (0 : Int)) != (40 : Int)) = false,
      0 ≤ (1 : Int),
      (1 : Int) ≤ ((a0).size : Int),
      SC cfg.P i_impl_read [.s (.v .str (ByteArray.extract a0 ((1 : Int)).toNat (((a0).size : Int)).toNat))] (.tup [.v .tree c1a, .v .str c1b, .v .bool true]) [],
      SC cfg.P i_impl_read [.s (.v .str c1b)] (.tup [.v .tree c2a, .v .str c2b, .v .bool true]) [],
      ((c2b).toList == ((⟨#[]⟩ : ByteArray)).toList) = false,
      0 ≤ (0 : Int),
      (0 : Int) < ((c2b).size : Int),
      ((bt c2b (0 : Int)) != (41 : Int)) = false,
      0 ≤ (1 : Int),
      (1 : Int) ≤ ((c2b).size : Int)]) (by kernel_rfl) ⟨(seq_f h1), (by decide), h2, (beq_eq_false_iff_ne.mpr h3), (by decide), h2, (bne_eq_false_iff_eq.mpr h4), (by decide), h5, h6, h7, (seq_f h8), (by decide), h9, (bne_eq_false_iff_eq.mpr h10), (by decide), h11, trivial⟩ get_impl_read (by decide)

theorem impl_read_p7 (a0 : ByteArray) (c1a : Tr) (c1b : ByteArray) (c2a : Tr) (c2b : ByteArray)
    (h1 : a0 ≠ (⟨#[]⟩ : ByteArray))
    (h2 : (0 : Int) < ((a0).size : Int))
    (h3 : (bt a0 (0 : Int)) ≠ (46 : Int))
    (h4 : (bt a0 (0 : Int)) = (40 : Int))
    (h5 : (1 : Int) ≤ ((a0).size : Int))
    (h6 : SC cfg.P i_impl_read [.s (.v .str (ByteArray.extract a0 ((1 : Int)).toNat (((a0).size : Int)).toNat))] (.tup [.v .tree c1a, .v .str c1b, .v .bool true]) [])
    (h7 : SC cfg.P i_impl_read [.s (.v .str c1b)] (.tup [.v .tree c2a, .v .str c2b, .v .bool false]) []) :
    SC cfg.P i_impl_read [.s (.v .str a0)] (.tup [.v .tree Tr.leaf, .v .str (⟨#[]⟩ : ByteArray), .v .bool false]) [] :=
  SC_of_run cfgOK (its := [.bool false, .bool false, .bool false, .res (.tup [.v .tree c1a, .v .str c1b, .v .bool true]) [] [] [], .res (.tup [.v .tree c2a, .v .str c2b, .v .bool false]) [] [] []])
    (ps := [((a0).toList == ((⟨#[]⟩ : ByteArray)).toList) = false,
      0 ≤ (0 : Int),
      (0 : Int) < ((a0).size : Int),
      ((bt a0 (0 : Int)) == (46 : Int)) = false,
      0 ≤ (0 : Int),
      (0 : Int) < ((a0).size : Int),
      ((bt a0 (0 : Int)) != (40 : Int)) = false,
      0 ≤ (1 : Int),
      (1 : Int) ≤ ((a0).size : Int),
      SC cfg.P i_impl_read [.s (.v .str (ByteArray.extract a0 ((1 : Int)).toNat (((a0).size : Int)).toNat))] (.tup [.v .tree c1a, .v .str c1b, .v .bool true]) [],
      SC cfg.P i_impl_read [.s (.v .str c1b)] (.tup [.v .tree c2a, .v .str c2b, .v .bool false]) []]) (by kernel_rfl) ⟨(seq_f h1), (by decide), h2, (beq_eq_false_iff_ne.mpr h3), (by decide), h2, (bne_eq_false_iff_eq.mpr h4), (by decide), h5, h6, h7, trivial⟩ get_impl_read (by decide)

theorem impl_read_p8 (a0 : ByteArray) (c1a : Tr) (c1b : ByteArray)
    (h1 : a0 ≠ (⟨#[]⟩ : ByteArray))
    (h2 : (0 : Int) < ((a0).size : Int))
    (h3 : (bt a0 (0 : Int)) ≠ (46 : Int))
    (h4 : (bt a0 (0 : Int)) = (40 : Int))
    (h5 : (1 : Int) ≤ ((a0).size : Int))
    (h6 : SC cfg.P i_impl_read [.s (.v .str (ByteArray.extract a0 ((1 : Int)).toNat (((a0).size : Int)).toNat))] (.tup [.v .tree c1a, .v .str c1b, .v .bool false]) []) :
    SC cfg.P i_impl_read [.s (.v .str a0)] (.tup [.v .tree Tr.leaf, .v .str (⟨#[]⟩ : ByteArray), .v .bool false]) [] :=
  SC_of_run cfgOK (its := [.bool false, .bool false, .bool false, .res (.tup [.v .tree c1a, .v .str c1b, .v .bool false]) [] [] []])
    (ps := [((a0).toList == ((⟨#[]⟩ : ByteArray)).toList) = false,
      0 ≤ (0 : Int),
      (0 : Int) < ((a0).size : Int),
      ((bt a0 (0 : Int)) == (46 : Int)) = false,
      0 ≤ (0 : Int),
      (0 : Int) < ((a0).size : Int),
      ((bt a0 (0 : Int)) != (40 : Int)) = false,
      0 ≤ (1 : Int),
      (1 : Int) ≤ ((a0).size : Int),
      SC cfg.P i_impl_read [.s (.v .str (ByteArray.extract a0 ((1 : Int)).toNat (((a0).size : Int)).toNat))] (.tup [.v .tree c1a, .v .str c1b, .v .bool false]) []]) (by kernel_rfl) ⟨(seq_f h1), (by decide), h2, (beq_eq_false_iff_ne.mpr h3), (by decide), h2, (bne_eq_false_iff_eq.mpr h4), (by decide), h5, h6, trivial⟩ get_impl_read (by decide)

end Go.AI
