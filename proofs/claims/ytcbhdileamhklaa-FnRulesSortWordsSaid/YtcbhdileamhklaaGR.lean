/- A part of the road: what it proves stands in its last texts. -/
import Derived.Test.YtcbhdileamhklaaSIds
import Derived.Test.YtcbhdileamhklaaProg
set_option autoImplicit false
set_option maxRecDepth 100000
set_option linter.unusedVariables false
namespace Go.AI
open Go.Proofs

/-! ### impl_pair_plain -/


theorem impl_pair_plain_p1 (a0 : (Tr × Tr)) (c1 : ByteArray) (c2 : ByteArray)
    (h1 : SC cfg.P i_impl_node_text [.s (.v .tree a0.1)] (.s (.v .str c1)) [])
    (h2 : SC cfg.P i_impl_node_text [.s (.v .tree a0.2)] (.s (.v .str c2)) []) :
    SC cfg.P i_impl_pair_plain [.s (.v (.pr .tree .tree) a0)] (.s (.v (.pr .str .str) (c1, c2))) [] :=
  SC_of_run cfgOK (its := [.res (.s (.v .str c1)) [] [] [], .res (.s (.v .str c2)) [] [] []])
    (ps := [SC cfg.P i_impl_node_text [.s (.v .tree a0.1)] (.s (.v .str c1)) [],
      SC cfg.P i_impl_node_text [.s (.v .tree a0.2)] (.s (.v .str c2)) []]) (by kernel_rfl) ⟨h1, h2, trivial⟩ get_impl_pair_plain (by decide)

/-! ### impl_node_carets -/


theorem impl_node_carets_p1 
     :
    SC cfg.P i_impl_node_carets [.s (.v .tree Tr.leaf)] (.s (.v (.int .i64) (0 : Int))) [] :=
  SC_of_run cfgOK (its := [.bool true])
    (ps := [Tr.leaf.isLeaf = true]) (by kernel_rfl) ⟨rfl, trivial⟩ get_impl_node_carets (by decide)

theorem impl_node_carets_p2 (a0l : Tr) (a0r : Tr) (c1 : Int) (c2 : Int)
    (h1 : SC cfg.P i_impl_node_carets [.s (.v .tree a0l)] (.s (.v (.int .i64) c1)) [])
    (h2 : SC cfg.P i_impl_node_carets [.s (.v .tree a0r)] (.s (.v (.int .i64) c2)) []) :
    SC cfg.P i_impl_node_carets [.s (.v .tree (Tr.node a0l a0r))] (.s (.v (.int .i64) (IntKind.wrap .i64 ((IntKind.wrap .i64 ((1 : Int) + c1)) + c2)))) [] :=
  SC_of_run cfgOK (its := [.bool false, .res (.s (.v (.int .i64) c1)) [] [] [], .res (.s (.v (.int .i64) c2)) [] [] []])
    (ps := [(Tr.node a0l a0r).isLeaf = false,
      SC cfg.P i_impl_node_carets [.s (.v .tree a0l)] (.s (.v (.int .i64) c1)) [],
      SC cfg.P i_impl_node_carets [.s (.v .tree a0r)] (.s (.v (.int .i64) c2)) []]) (by kernel_rfl) ⟨rfl, h1, h2, trivial⟩ get_impl_node_carets (by decide)

/-! ### impl_node_text -/


theorem impl_node_text_p1 
     :
    SC cfg.P i_impl_node_text [.s (.v .tree Tr.leaf)] (.s (.v .str (⟨#[46]⟩ : ByteArray))) [] :=
  SC_of_run cfgOK (its := [.bool true])
    (ps := [Tr.leaf.isLeaf = true]) (by kernel_rfl) ⟨rfl, trivial⟩ get_impl_node_text (by decide)

theorem impl_node_text_p2 (a0l : Tr) (a0r : Tr) (c1 : ByteArray) (c2 : ByteArray)
    (h1 : SC cfg.P i_impl_node_text [.s (.v .tree a0l)] (.s (.v .str c1)) [])
    (h2 : ((⟨#[40]⟩ : ByteArray)).size + (c1).size ≤ 2 ^ 62)
    (h3 : SC cfg.P i_impl_node_text [.s (.v .tree a0r)] (.s (.v .str c2)) [])
    (h4 : (((⟨#[40]⟩ : ByteArray) ++ c1)).size + (c2).size ≤ 2 ^ 62)
    (h5 : ((((⟨#[40]⟩ : ByteArray) ++ c1) ++ c2)).size + ((⟨#[41]⟩ : ByteArray)).size ≤ 2 ^ 62) :
    SC cfg.P i_impl_node_text [.s (.v .tree (Tr.node a0l a0r))] (.s (.v .str ((((⟨#[40]⟩ : ByteArray) ++ c1) ++ c2) ++ (⟨#[41]⟩ : ByteArray)))) [] :=
  SC_of_run cfgOK (its := [.bool false, .res (.s (.v .str c1)) [] [] [], .res (.s (.v .str c2)) [] [] []])
    (ps := [(Tr.node a0l a0r).isLeaf = false,
      SC cfg.P i_impl_node_text [.s (.v .tree a0l)] (.s (.v .str c1)) [],
      ((⟨#[40]⟩ : ByteArray)).size + (c1).size ≤ 2 ^ 62,
      SC cfg.P i_impl_node_text [.s (.v .tree a0r)] (.s (.v .str c2)) [],
      (((⟨#[40]⟩ : ByteArray) ++ c1)).size + (c2).size ≤ 2 ^ 62,
      ((((⟨#[40]⟩ : ByteArray) ++ c1) ++ c2)).size + ((⟨#[41]⟩ : ByteArray)).size ≤ 2 ^ 62]) (by kernel_rfl) ⟨rfl, h1, h2, h3, h4, h5, trivial⟩ get_impl_node_text (by decide)

/-! ### impl_pair_reduced -/


def impl_pair_reduced_L0a (xo1 : (Tr × Tr)) (xo2 : (Tr × Tr)) : St := mkSt 15 [(1, .s (.adr 1 none)), (2, .s (.adr 2 none))] [(1, .box (.pr .tree .tree) xo1 false), (2, .box (.pr .tree .tree) xo2 false)]

def impl_pair_reduced_L0X1 (yo2 : (Tr × Tr)) : St := mkSt 15 [(2, .s (.adr 2 none))] [(2, .box (.pr .tree .tree) yo2 false)]

theorem impl_pair_reduced_L0a_x1 (xo1 : (Tr × Tr)) (xo2 : (Tr × Tr)) (dc1 : (List Int))
    (h1 : SC cfg.P i_impl_pair_both [.s (.v (.pr .tree .tree) xo1)] (.s (.own t_int (.int .i64) dc1)) [])
    (h2 : ((List.length dc1 : Nat) : Int) = (0 : Int)) :
    LoopSC cfg.P 1 (lb P_impl_pair_reduced 0) (impl_pair_reduced_L0a xo1 xo2) (.ret) (impl_pair_reduced_L0X1 xo1) :=
  loop_out cfgOK (f := i_impl_pair_reduced) (its := [.res (.s (.own t_int (.int .i64) dc1)) [] [] [5], .bool true])
    (ps := [SC cfg.P i_impl_pair_both [.s (.v (.pr .tree .tree) xo1)] (.s (.own t_int (.int .i64) dc1)) [],
      (((List.length dc1 : Nat) : Int) == (0 : Int)) = true]) (by kernel_rfl) ⟨h1, (beq_iff_eq.mpr h2), trivial⟩ (fun h => by cases h)

theorem impl_pair_reduced_L0a_i2 (xo1 : (Tr × Tr)) (xo2 : (Tr × Tr)) (dc1 : (List Int)) (dc2 : (Tr × Tr))
    (h1 : SC cfg.P i_impl_pair_both [.s (.v (.pr .tree .tree) xo1)] (.s (.own t_int (.int .i64) dc1)) [])
    (h2 : ((List.length dc1 : Nat) : Int) ≠ (0 : Int))
    (h3 : (0 : Int) < (List.length dc1 : Int))
    (h4 : ((0 : Int)).toNat < List.length dc1)
    (h5 : SC cfg.P i_impl_pair_drop [.s (.v (.pr .tree .tree) xo1), .s (.v (.int .i64) (List.getD dc1 ((0 : Int)).toNat (0 : Int)))] (.s (.v (.pr .tree .tree) dc2)) [])
    {e : AEx} {st : St} (next : LoopSC cfg.P 1 (lb P_impl_pair_reduced 0) (impl_pair_reduced_L0a dc2 xo2) e st) :
    LoopSC cfg.P 1 (lb P_impl_pair_reduced 0) (impl_pair_reduced_L0a xo1 xo2) e st :=
  loop_iter cfgOK (f := i_impl_pair_reduced) (its := [.res (.s (.own t_int (.int .i64) dc1)) [] [] [5], .bool false, .res (.s (.v (.pr .tree .tree) dc2)) [] [] []])
    (ps := [SC cfg.P i_impl_pair_both [.s (.v (.pr .tree .tree) xo1)] (.s (.own t_int (.int .i64) dc1)) [],
      (((List.length dc1 : Nat) : Int) == (0 : Int)) = false,
      0 ≤ (0 : Int),
      (0 : Int) < (List.length dc1 : Int),
      ((0 : Int)).toNat < List.length dc1,
      SC cfg.P i_impl_pair_drop [.s (.v (.pr .tree .tree) xo1), .s (.v (.int .i64) (List.getD dc1 ((0 : Int)).toNat (0 : Int)))] (.s (.v (.pr .tree .tree) dc2)) []]) (st1 := impl_pair_reduced_L0a dc2 xo2) (by kernel_rfl) ⟨h1, (beq_eq_false_iff_ne.mpr h2), (by decide), h3, h4, h5, trivial⟩ next

theorem impl_pair_reduced_p1 (a0 : (Tr × Tr)) (k1yo2 : (Tr × Tr))
    (h1 : LoopSC cfg.P 1 (lb P_impl_pair_reduced 0) (impl_pair_reduced_L0a a0 (Tr.leaf, Tr.leaf)) (.ret) (impl_pair_reduced_L0X1 k1yo2)) :
    SC cfg.P i_impl_pair_reduced [.s (.v (.pr .tree .tree) a0)] (.s (.v (.pr .tree .tree) k1yo2)) [] :=
  SC_of_run cfgOK (its := [.loop (fun _ => (.ret, impl_pair_reduced_L0X1 k1yo2))])
    (ps := [LoopSC cfg.P 1 (lb P_impl_pair_reduced 0) (impl_pair_reduced_L0a a0 (Tr.leaf, Tr.leaf)) (.ret) (impl_pair_reduced_L0X1 k1yo2)]) (by kernel_rfl) ⟨h1, trivial⟩ get_impl_pair_reduced (by decide)

/-! ### impl_node_leaves -/


theorem impl_node_leaves_p1 (a0 : Tr) (c1 : Int)
    (h1 : SC cfg.P i_impl_node_carets [.s (.v .tree a0)] (.s (.v (.int .i64) c1)) []) :
    SC cfg.P i_impl_node_leaves [.s (.v .tree a0)] (.s (.v (.int .i64) (IntKind.wrap .i64 (c1 + (1 : Int))))) [] :=
  SC_of_run cfgOK (its := [.res (.s (.v (.int .i64) c1)) [] [] []])
    (ps := [SC cfg.P i_impl_node_carets [.s (.v .tree a0)] (.s (.v (.int .i64) c1)) []]) (by kernel_rfl) ⟨h1, trivial⟩ get_impl_node_leaves (by decide)

/-! ### impl_pair_both -/


def impl_pair_both_L0a (x13 : Int) (x14 : Int) (xo3 : (List Int)) (xo9 : (List Int)) (xo12 : (List Int)) : St := mkSt 27 [(3, .s (.osl 3 0)), (4, .s (.osl 9 0)), (12, .s (.osl 12 0)), (13, .s (.v (.int .i64) x13)), (14, .s (.v (.int .i64) x14))] [(3, .row t_int (.int .i64) xo3 0 false), (9, .row t_int (.int .i64) xo9 0 false), (12, .row t_int (.int .i64) xo12 0 false)]

def impl_pair_both_L0X1 (y13 : Int) (y14 : Int) (y15 : Bool) (yo3 : (List Int)) (yo9 : (List Int)) (yo12 : (List Int)) : St := mkSt 27 [(3, .s (.osl 3 0)), (4, .s (.osl 9 0)), (12, .s (.osl 12 0)), (13, .s (.v (.int .i64) y13)), (14, .s (.v (.int .i64) y14)), (15, .s (.v .bool y15))] [(3, .row t_int (.int .i64) yo3 0 false), (9, .row t_int (.int .i64) yo9 0 false), (12, .row t_int (.int .i64) yo12 0 false)]

theorem impl_pair_both_L0a_i1 (x13 : Int) (x14 : Int) (xo3 : (List Int)) (xo9 : (List Int)) (xo12 : (List Int))
    (h1 : x14 < x13)
    (h2 : 0 ≤ x14)
    (h3 : x14 < (List.length xo12 : Int))
    (h4 : (x14).toNat < List.length xo12)
    (h5 : SC cfg.P i_slices_Contains [.s (.v (.sl (.int .i64)) xo9), .s (.v (.int .i64) (List.getD xo12 (x14).toNat (0 : Int)))] (.s (.v .bool true)) [])
    (h6 : sizeOK (List.length xo3 + List.length ([(List.getD xo12 (x14).toNat (0 : Int))] : List Int)))
    {e : AEx} {st : St} (next : LoopSC cfg.P 1 (lb P_impl_pair_both 0) (impl_pair_both_L0a x13 (IntKind.wrap .i64 (x14 + (1 : Int))) (xo3 ++ ([(List.getD xo12 (x14).toNat (0 : Int))] : List Int)) xo9 xo12) e st) :
    LoopSC cfg.P 1 (lb P_impl_pair_both 0) (impl_pair_both_L0a x13 x14 xo3 xo9 xo12) e st :=
  loop_iter cfgOK (f := i_impl_pair_both) (its := [.bool true, .res (.s (.v .bool true)) [] [] []])
    (ps := [decide (x14 < x13) = true,
      0 ≤ x14,
      x14 < (List.length xo12 : Int),
      (x14).toNat < List.length xo12,
      SC cfg.P i_slices_Contains [.s (.v (.sl (.int .i64)) xo9), .s (.v (.int .i64) (List.getD xo12 (x14).toNat (0 : Int)))] (.s (.v .bool true)) [],
      sizeOK (List.length xo3 + List.length ([(List.getD xo12 (x14).toNat (0 : Int))] : List Int))]) (st1 := impl_pair_both_L0a x13 (IntKind.wrap .i64 (x14 + (1 : Int))) (xo3 ++ ([(List.getD xo12 (x14).toNat (0 : Int))] : List Int)) xo9 xo12) (by kernel_rfl) ⟨(decide_eq_true h1), h2, h3, h4, h5, h6, trivial⟩ next

theorem impl_pair_both_L0a_i2 (x13 : Int) (x14 : Int) (xo3 : (List Int)) (xo9 : (List Int)) (xo12 : (List Int))
    (h1 : x14 < x13)
    (h2 : 0 ≤ x14)
    (h3 : x14 < (List.length xo12 : Int))
    (h4 : (x14).toNat < List.length xo12)
    (h5 : SC cfg.P i_slices_Contains [.s (.v (.sl (.int .i64)) xo9), .s (.v (.int .i64) (List.getD xo12 (x14).toNat (0 : Int)))] (.s (.v .bool false)) [])
    {e : AEx} {st : St} (next : LoopSC cfg.P 1 (lb P_impl_pair_both 0) (impl_pair_both_L0a x13 (IntKind.wrap .i64 (x14 + (1 : Int))) xo3 xo9 xo12) e st) :
    LoopSC cfg.P 1 (lb P_impl_pair_both 0) (impl_pair_both_L0a x13 x14 xo3 xo9 xo12) e st :=
  loop_iter cfgOK (f := i_impl_pair_both) (its := [.bool true, .res (.s (.v .bool false)) [] [] []])
    (ps := [decide (x14 < x13) = true,
      0 ≤ x14,
      x14 < (List.length xo12 : Int),
      (x14).toNat < List.length xo12,
      SC cfg.P i_slices_Contains [.s (.v (.sl (.int .i64)) xo9), .s (.v (.int .i64) (List.getD xo12 (x14).toNat (0 : Int)))] (.s (.v .bool false)) []]) (st1 := impl_pair_both_L0a x13 (IntKind.wrap .i64 (x14 + (1 : Int))) xo3 xo9 xo12) (by kernel_rfl) ⟨(decide_eq_true h1), h2, h3, h4, h5, trivial⟩ next

theorem impl_pair_both_L0a_x3 (x13 : Int) (x14 : Int) (xo3 : (List Int)) (xo9 : (List Int)) (xo12 : (List Int))
    (h1 : ¬ (x14 < x13)) :
    LoopSC cfg.P 1 (lb P_impl_pair_both 0) (impl_pair_both_L0a x13 x14 xo3 xo9 xo12) (.exit 0) (impl_pair_both_L0X1 x13 x14 false xo3 xo9 xo12) :=
  loop_out cfgOK (f := i_impl_pair_both) (its := [.bool false])
    (ps := [decide (x14 < x13) = false]) (by kernel_rfl) ⟨(decide_eq_false h1), trivial⟩ (fun h => by cases h)

theorem impl_pair_both_p1 (a0 : (Tr × Tr)) (c1 : (List Int)) (c2 : (List Int)) (k1y13 : Int) (k1y14 : Int) (k1y15 : Bool) (k1yo3 : (List Int)) (k1yo9 : (List Int)) (k1yo12 : (List Int))
    (h1 : SC cfg.P i_impl_node_exposed [.s (.v .tree a0.2), .s (.v (.int .i64) (0 : Int))] (.s (.own t_int (.int .i64) c1)) [])
    (h2 : SC cfg.P i_impl_node_exposed [.s (.v .tree a0.1), .s (.v (.int .i64) (0 : Int))] (.s (.own t_int (.int .i64) c2)) [])
    (h3 : LoopSC cfg.P 1 (lb P_impl_pair_both 0) (impl_pair_both_L0a ((List.length c2 : Nat) : Int) (0 : Int) ([] : List Int) c1 c2) (.exit 0) (impl_pair_both_L0X1 k1y13 k1y14 k1y15 k1yo3 k1yo9 k1yo12)) :
    SC cfg.P i_impl_pair_both [.s (.v (.pr .tree .tree) a0)] (.s (.own t_int (.int .i64) k1yo3)) [] :=
  SC_of_run cfgOK (its := [.res (.s (.own t_int (.int .i64) c1)) [] [] [9], .res (.s (.own t_int (.int .i64) c2)) [] [] [12], .loop (fun _ => (.exit 0, impl_pair_both_L0X1 k1y13 k1y14 k1y15 k1yo3 k1yo9 k1yo12))])
    (ps := [SC cfg.P i_impl_node_exposed [.s (.v .tree a0.2), .s (.v (.int .i64) (0 : Int))] (.s (.own t_int (.int .i64) c1)) [],
      SC cfg.P i_impl_node_exposed [.s (.v .tree a0.1), .s (.v (.int .i64) (0 : Int))] (.s (.own t_int (.int .i64) c2)) [],
      LoopSC cfg.P 1 (lb P_impl_pair_both 0) (impl_pair_both_L0a ((List.length c2 : Nat) : Int) (0 : Int) ([] : List Int) c1 c2) (.exit 0) (impl_pair_both_L0X1 k1y13 k1y14 k1y15 k1yo3 k1yo9 k1yo12)]) (by kernel_rfl) ⟨h1, h2, h3, trivial⟩ get_impl_pair_both (by decide)

/-! ### impl_pair_drop -/


theorem impl_pair_drop_p1 (a0 : (Tr × Tr)) (a1 : Int) (c1 : Tr) (c2 : Tr)
    (h1 : SC cfg.P i_impl_node_without [.s (.v .tree a0.1), .s (.v (.int .i64) a1)] (.s (.v .tree c1)) [])
    (h2 : SC cfg.P i_impl_node_without [.s (.v .tree a0.2), .s (.v (.int .i64) a1)] (.s (.v .tree c2)) []) :
    SC cfg.P i_impl_pair_drop [.s (.v (.pr .tree .tree) a0), .s (.v (.int .i64) a1)] (.s (.v (.pr .tree .tree) (c1, c2))) [] :=
  SC_of_run cfgOK (its := [.res (.s (.v .tree c1)) [] [] [], .res (.s (.v .tree c2)) [] [] []])
    (ps := [SC cfg.P i_impl_node_without [.s (.v .tree a0.1), .s (.v (.int .i64) a1)] (.s (.v .tree c1)) [],
      SC cfg.P i_impl_node_without [.s (.v .tree a0.2), .s (.v (.int .i64) a1)] (.s (.v .tree c2)) []]) (by kernel_rfl) ⟨h1, h2, trivial⟩ get_impl_pair_drop (by decide)

/-! ### impl_node_exposed -/


theorem impl_node_exposed_p1 (a1 : Int)
     :
    SC cfg.P i_impl_node_exposed [.s (.v .tree Tr.leaf), .s (.v (.int .i64) a1)] (.s (.own t_int (.int .i64) ([] : List Int))) [] :=
  SC_of_run cfgOK (its := [.bool true])
    (ps := [Tr.leaf.isLeaf = true]) (by kernel_rfl) ⟨rfl, trivial⟩ get_impl_node_exposed (by decide)

theorem impl_node_exposed_p2 (a1 : Int)
     :
    SC cfg.P i_impl_node_exposed [.s (.v .tree (Tr.node Tr.leaf Tr.leaf)), .s (.v (.int .i64) a1)] (.s (.own t_int (.int .i64) ([a1] : List Int))) [] :=
  SC_of_run cfgOK (its := [.bool false, .bool true, .bool true])
    (ps := [(Tr.node Tr.leaf Tr.leaf).isLeaf = false,
      Tr.leaf.isLeaf = true,
      Tr.leaf.isLeaf = true]) (by kernel_rfl) ⟨rfl, rfl, rfl, trivial⟩ get_impl_node_exposed (by decide)

theorem impl_node_exposed_p3 (a0rl : Tr) (a0rr : Tr) (a1 : Int) (c1 : (List Int)) (c2 : Int) (c3 : (List Int))
    (h1 : SC cfg.P i_impl_node_exposed [.s (.v .tree Tr.leaf), .s (.v (.int .i64) a1)] (.s (.own t_int (.int .i64) c1)) [])
    (h2 : SC cfg.P i_impl_node_leaves [.s (.v .tree Tr.leaf)] (.s (.v (.int .i64) c2)) [])
    (h3 : SC cfg.P i_impl_node_exposed [.s (.v .tree (Tr.node a0rl a0rr)), .s (.v (.int .i64) (IntKind.wrap .i64 (a1 + c2)))] (.s (.own t_int (.int .i64) c3)) [])
    (h4 : sizeOK (List.length c1 + List.length c3)) :
    SC cfg.P i_impl_node_exposed [.s (.v .tree (Tr.node Tr.leaf (Tr.node a0rl a0rr))), .s (.v (.int .i64) a1)] (.s (.own t_int (.int .i64) (c1 ++ c3))) [] :=
  SC_of_run cfgOK (its := [.bool false, .bool true, .bool false, .res (.s (.own t_int (.int .i64) c1)) [] [] [26], .res (.s (.v (.int .i64) c2)) [] [] [], .res (.s (.own t_int (.int .i64) c3)) [] [] [38]])
    (ps := [(Tr.node Tr.leaf (Tr.node a0rl a0rr)).isLeaf = false,
      Tr.leaf.isLeaf = true,
      (Tr.node a0rl a0rr).isLeaf = false,
      SC cfg.P i_impl_node_exposed [.s (.v .tree Tr.leaf), .s (.v (.int .i64) a1)] (.s (.own t_int (.int .i64) c1)) [],
      SC cfg.P i_impl_node_leaves [.s (.v .tree Tr.leaf)] (.s (.v (.int .i64) c2)) [],
      SC cfg.P i_impl_node_exposed [.s (.v .tree (Tr.node a0rl a0rr)), .s (.v (.int .i64) (IntKind.wrap .i64 (a1 + c2)))] (.s (.own t_int (.int .i64) c3)) [],
      sizeOK (List.length c1 + List.length c3)]) (by kernel_rfl) ⟨rfl, rfl, rfl, h1, h2, h3, h4, trivial⟩ get_impl_node_exposed (by decide)

theorem impl_node_exposed_p4 (a0ll : Tr) (a0lr : Tr) (a0r : Tr) (a1 : Int) (c1 : (List Int)) (c2 : Int) (c3 : (List Int))
    (h1 : SC cfg.P i_impl_node_exposed [.s (.v .tree (Tr.node a0ll a0lr)), .s (.v (.int .i64) a1)] (.s (.own t_int (.int .i64) c1)) [])
    (h2 : SC cfg.P i_impl_node_leaves [.s (.v .tree (Tr.node a0ll a0lr))] (.s (.v (.int .i64) c2)) [])
    (h3 : SC cfg.P i_impl_node_exposed [.s (.v .tree a0r), .s (.v (.int .i64) (IntKind.wrap .i64 (a1 + c2)))] (.s (.own t_int (.int .i64) c3)) [])
    (h4 : sizeOK (List.length c1 + List.length c3)) :
    SC cfg.P i_impl_node_exposed [.s (.v .tree (Tr.node (Tr.node a0ll a0lr) a0r)), .s (.v (.int .i64) a1)] (.s (.own t_int (.int .i64) (c1 ++ c3))) [] :=
  SC_of_run cfgOK (its := [.bool false, .bool false, .res (.s (.own t_int (.int .i64) c1)) [] [] [26], .res (.s (.v (.int .i64) c2)) [] [] [], .res (.s (.own t_int (.int .i64) c3)) [] [] [38]])
    (ps := [(Tr.node (Tr.node a0ll a0lr) a0r).isLeaf = false,
      (Tr.node a0ll a0lr).isLeaf = false,
      SC cfg.P i_impl_node_exposed [.s (.v .tree (Tr.node a0ll a0lr)), .s (.v (.int .i64) a1)] (.s (.own t_int (.int .i64) c1)) [],
      SC cfg.P i_impl_node_leaves [.s (.v .tree (Tr.node a0ll a0lr))] (.s (.v (.int .i64) c2)) [],
      SC cfg.P i_impl_node_exposed [.s (.v .tree a0r), .s (.v (.int .i64) (IntKind.wrap .i64 (a1 + c2)))] (.s (.own t_int (.int .i64) c3)) [],
      sizeOK (List.length c1 + List.length c3)]) (by kernel_rfl) ⟨rfl, rfl, h1, h2, h3, h4, trivial⟩ get_impl_node_exposed (by decide)

/-! ### impl_node_without -/


-- impl_node_without: NILDEREF at "l1_tree.go:276" nilCheck   []

theorem impl_node_without_p1 (a1 : Int)
     :
    SC cfg.P i_impl_node_without [.s (.v .tree (Tr.node Tr.leaf Tr.leaf)), .s (.v (.int .i64) a1)] (.s (.v .tree Tr.leaf)) [] :=
  SC_of_run cfgOK (its := [.bool true, .bool true])
    (ps := [Tr.leaf.isLeaf = true,
      Tr.leaf.isLeaf = true]) (by kernel_rfl) ⟨rfl, rfl, trivial⟩ get_impl_node_without (by decide)

theorem impl_node_without_p2 (a0rl : Tr) (a0rr : Tr) (a1 : Int) (c1 : Int) (c2 : Tr)
    (h1 : SC cfg.P i_impl_node_leaves [.s (.v .tree Tr.leaf)] (.s (.v (.int .i64) c1)) [])
    (h2 : a1 ≥ c1)
    (h3 : SC cfg.P i_impl_node_without [.s (.v .tree (Tr.node a0rl a0rr)), .s (.v (.int .i64) (IntKind.wrap .i64 (a1 - c1)))] (.s (.v .tree c2)) []) :
    SC cfg.P i_impl_node_without [.s (.v .tree (Tr.node Tr.leaf (Tr.node a0rl a0rr))), .s (.v (.int .i64) a1)] (.s (.v .tree (Tr.node Tr.leaf c2))) [] :=
  SC_of_run cfgOK (its := [.bool true, .bool false, .res (.s (.v (.int .i64) c1)) [] [] [], .bool true, .res (.s (.v .tree c2)) [] [] []])
    (ps := [Tr.leaf.isLeaf = true,
      (Tr.node a0rl a0rr).isLeaf = false,
      SC cfg.P i_impl_node_leaves [.s (.v .tree Tr.leaf)] (.s (.v (.int .i64) c1)) [],
      decide (a1 ≥ c1) = true,
      SC cfg.P i_impl_node_without [.s (.v .tree (Tr.node a0rl a0rr)), .s (.v (.int .i64) (IntKind.wrap .i64 (a1 - c1)))] (.s (.v .tree c2)) []]) (by kernel_rfl) ⟨rfl, rfl, h1, (decide_eq_true h2), h3, trivial⟩ get_impl_node_without (by decide)

theorem impl_node_without_p3 (a0rl : Tr) (a0rr : Tr) (a1 : Int) (c1 : Int) (c2 : Tr)
    (h1 : SC cfg.P i_impl_node_leaves [.s (.v .tree Tr.leaf)] (.s (.v (.int .i64) c1)) [])
    (h2 : ¬ (a1 ≥ c1))
    (h3 : SC cfg.P i_impl_node_without [.s (.v .tree Tr.leaf), .s (.v (.int .i64) a1)] (.s (.v .tree c2)) []) :
    SC cfg.P i_impl_node_without [.s (.v .tree (Tr.node Tr.leaf (Tr.node a0rl a0rr))), .s (.v (.int .i64) a1)] (.s (.v .tree (Tr.node c2 (Tr.node a0rl a0rr)))) [] :=
  SC_of_run cfgOK (its := [.bool true, .bool false, .res (.s (.v (.int .i64) c1)) [] [] [], .bool false, .res (.s (.v .tree c2)) [] [] []])
    (ps := [Tr.leaf.isLeaf = true,
      (Tr.node a0rl a0rr).isLeaf = false,
      SC cfg.P i_impl_node_leaves [.s (.v .tree Tr.leaf)] (.s (.v (.int .i64) c1)) [],
      decide (a1 ≥ c1) = false,
      SC cfg.P i_impl_node_without [.s (.v .tree Tr.leaf), .s (.v (.int .i64) a1)] (.s (.v .tree c2)) []]) (by kernel_rfl) ⟨rfl, rfl, h1, (decide_eq_false h2), h3, trivial⟩ get_impl_node_without (by decide)

theorem impl_node_without_p4 (a0ll : Tr) (a0lr : Tr) (a0r : Tr) (a1 : Int) (c1 : Int) (c2 : Tr)
    (h1 : SC cfg.P i_impl_node_leaves [.s (.v .tree (Tr.node a0ll a0lr))] (.s (.v (.int .i64) c1)) [])
    (h2 : a1 ≥ c1)
    (h3 : SC cfg.P i_impl_node_without [.s (.v .tree a0r), .s (.v (.int .i64) (IntKind.wrap .i64 (a1 - c1)))] (.s (.v .tree c2)) []) :
    SC cfg.P i_impl_node_without [.s (.v .tree (Tr.node (Tr.node a0ll a0lr) a0r)), .s (.v (.int .i64) a1)] (.s (.v .tree (Tr.node (Tr.node a0ll a0lr) c2))) [] :=
  SC_of_run cfgOK (its := [.bool false, .res (.s (.v (.int .i64) c1)) [] [] [], .bool true, .res (.s (.v .tree c2)) [] [] []])
    (ps := [(Tr.node a0ll a0lr).isLeaf = false,
      SC cfg.P i_impl_node_leaves [.s (.v .tree (Tr.node a0ll a0lr))] (.s (.v (.int .i64) c1)) [],
      decide (a1 ≥ c1) = true,
      SC cfg.P i_impl_node_without [.s (.v .tree a0r), .s (.v (.int .i64) (IntKind.wrap .i64 (a1 - c1)))] (.s (.v .tree c2)) []]) (by kernel_rfl) ⟨rfl, h1, (decide_eq_true h2), h3, trivial⟩ get_impl_node_without (by decide)

theorem impl_node_without_p5 (a0ll : Tr) (a0lr : Tr) (a0r : Tr) (a1 : Int) (c1 : Int) (c2 : Tr)
    (h1 : SC cfg.P i_impl_node_leaves [.s (.v .tree (Tr.node a0ll a0lr))] (.s (.v (.int .i64) c1)) [])
    (h2 : ¬ (a1 ≥ c1))
    (h3 : SC cfg.P i_impl_node_without [.s (.v .tree (Tr.node a0ll a0lr)), .s (.v (.int .i64) a1)] (.s (.v .tree c2)) []) :
    SC cfg.P i_impl_node_without [.s (.v .tree (Tr.node (Tr.node a0ll a0lr) a0r)), .s (.v (.int .i64) a1)] (.s (.v .tree (Tr.node c2 a0r))) [] :=
  SC_of_run cfgOK (its := [.bool false, .res (.s (.v (.int .i64) c1)) [] [] [], .bool false, .res (.s (.v .tree c2)) [] [] []])
    (ps := [(Tr.node a0ll a0lr).isLeaf = false,
      SC cfg.P i_impl_node_leaves [.s (.v .tree (Tr.node a0ll a0lr))] (.s (.v (.int .i64) c1)) [],
      decide (a1 ≥ c1) = false,
      SC cfg.P i_impl_node_without [.s (.v .tree (Tr.node a0ll a0lr)), .s (.v (.int .i64) a1)] (.s (.v .tree c2)) []]) (by kernel_rfl) ⟨rfl, h1, (decide_eq_false h2), h3, trivial⟩ get_impl_node_without (by decide)

end Go.AI
