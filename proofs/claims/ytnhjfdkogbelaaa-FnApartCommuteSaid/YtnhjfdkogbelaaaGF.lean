/- A part of the road: what it proves stands in its last texts. -/
import Derived.Test.YtnhjfdkogbelaaaSIds
import Derived.Test.YtnhjfdkogbelaaaProg
set_option autoImplicit false
set_option maxRecDepth 100000
set_option linter.unusedVariables false
namespace Go.AI
open Go.Proofs

/-! ### impl_pair_pieces -/


def impl_pair_pieces_L0a (x13 : Int) (x14 : Int) (xo3 : (List (Int × (Int × (Int × Int))))) (xo9 : (List ByteArray)) (xo12 : (List ByteArray)) : St := mkSt 39 [(3, .s (.osl 3 0)), (4, .s (.osl 9 0)), (12, .s (.osl 12 0)), (13, .s (.v (.int .i64) x13)), (14, .s (.v (.int .i64) x14))] [(3, .row t_impl_piece (.pr (.int .i64) (.pr (.int .i64) (.pr (.int .i64) (.int .i64)))) xo3 0 false), (9, .row t_string .str xo9 0 false), (12, .row t_string .str xo12 0 false)]

def impl_pair_pieces_L0X1 (y13 : Int) (y14 : Int) (y15 : Bool) (yo3 : (List (Int × (Int × (Int × Int))))) (yo9 : (List ByteArray)) (yo12 : (List ByteArray)) : St := mkSt 39 [(3, .s (.osl 3 0)), (4, .s (.osl 9 0)), (12, .s (.osl 12 0)), (13, .s (.v (.int .i64) y13)), (14, .s (.v (.int .i64) y14)), (15, .s (.v .bool y15))] [(3, .row t_impl_piece (.pr (.int .i64) (.pr (.int .i64) (.pr (.int .i64) (.int .i64)))) yo3 0 false), (9, .row t_string .str yo9 0 false), (12, .row t_string .str yo12 0 false)]

theorem impl_pair_pieces_L0a_i1 (x13 : Int) (x14 : Int) (xo3 : (List (Int × (Int × (Int × Int))))) (xo9 : (List ByteArray)) (xo12 : (List ByteArray)) (dc1 : Int) (dc2 : Int)
    (h1 : x14 < x13)
    (h2 : 0 ≤ x14)
    (h3 : x14 < (List.length xo12 : Int))
    (h4 : (x14).toNat < List.length xo12)
    (h5 : SC cfg.P i_impl_placeOf [.s (.v .str (List.getD xo12 (x14).toNat (⟨#[]⟩ : ByteArray)))] (.s (.v (.int .i64) dc1)) [])
    (h6 : x14 < (List.length xo9 : Int))
    (h7 : (x14).toNat < List.length xo9)
    (h8 : SC cfg.P i_impl_placeOf [.s (.v .str (List.getD xo9 (x14).toNat (⟨#[]⟩ : ByteArray)))] (.s (.v (.int .i64) dc2)) [])
    (h9 : sizeOK (List.length xo3 + List.length ([(dc1, (dc2, ((((List.getD xo12 (x14).toNat (⟨#[]⟩ : ByteArray))).size : Int), (((List.getD xo9 (x14).toNat (⟨#[]⟩ : ByteArray))).size : Int))))] : List (Int × (Int × (Int × Int))))))
    {e : AEx} {st : St} (next : LoopSC cfg.P 1 (lb P_impl_pair_pieces 0) (impl_pair_pieces_L0a x13 (IntKind.wrap .i64 (x14 + (1 : Int))) (xo3 ++ ([(dc1, (dc2, ((((List.getD xo12 (x14).toNat (⟨#[]⟩ : ByteArray))).size : Int), (((List.getD xo9 (x14).toNat (⟨#[]⟩ : ByteArray))).size : Int))))] : List (Int × (Int × (Int × Int))))) xo9 xo12) e st) :
    LoopSC cfg.P 1 (lb P_impl_pair_pieces 0) (impl_pair_pieces_L0a x13 x14 xo3 xo9 xo12) e st :=
  loop_iter cfgOK (f := i_impl_pair_pieces) (its := [.bool true, .res (.s (.v (.int .i64) dc1)) [] [] [], .res (.s (.v (.int .i64) dc2)) [] [] []])
    (ps := [decide (x14 < x13) = true,
      0 ≤ x14,
      x14 < (List.length xo12 : Int),
      (x14).toNat < List.length xo12,
      SC cfg.P i_impl_placeOf [.s (.v .str (List.getD xo12 (x14).toNat (⟨#[]⟩ : ByteArray)))] (.s (.v (.int .i64) dc1)) [],
      0 ≤ x14,
      x14 < (List.length xo9 : Int),
      (x14).toNat < List.length xo9,
      SC cfg.P i_impl_placeOf [.s (.v .str (List.getD xo9 (x14).toNat (⟨#[]⟩ : ByteArray)))] (.s (.v (.int .i64) dc2)) [],
      0 ≤ x14,
      x14 < (List.length xo9 : Int),
      (x14).toNat < List.length xo9,
      sizeOK (List.length xo3 + List.length ([(dc1, (dc2, ((((List.getD xo12 (x14).toNat (⟨#[]⟩ : ByteArray))).size : Int), (((List.getD xo9 (x14).toNat (⟨#[]⟩ : ByteArray))).size : Int))))] : List (Int × (Int × (Int × Int)))))]) (st1 := impl_pair_pieces_L0a x13 (IntKind.wrap .i64 (x14 + (1 : Int))) (xo3 ++ ([(dc1, (dc2, ((((List.getD xo12 (x14).toNat (⟨#[]⟩ : ByteArray))).size : Int), (((List.getD xo9 (x14).toNat (⟨#[]⟩ : ByteArray))).size : Int))))] : List (Int × (Int × (Int × Int))))) xo9 xo12) (by kernel_rfl) ⟨(decide_eq_true h1), h2, h3, h4, h5, h2, h6, h7, h8, h2, h6, h7, h9, trivial⟩ next

theorem impl_pair_pieces_L0a_x2 (x13 : Int) (x14 : Int) (xo3 : (List (Int × (Int × (Int × Int))))) (xo9 : (List ByteArray)) (xo12 : (List ByteArray))
    (h1 : ¬ (x14 < x13)) :
    LoopSC cfg.P 1 (lb P_impl_pair_pieces 0) (impl_pair_pieces_L0a x13 x14 xo3 xo9 xo12) (.exit 0) (impl_pair_pieces_L0X1 x13 x14 false xo3 xo9 xo12) :=
  loop_out cfgOK (f := i_impl_pair_pieces) (its := [.bool false])
    (ps := [decide (x14 < x13) = false]) (by kernel_rfl) ⟨(decide_eq_false h1), trivial⟩ (fun h => by cases h)

theorem impl_pair_pieces_p1 (a0 : (Tr × Tr)) (c1 : (List ByteArray)) (c2 : (List ByteArray)) (k1y13 : Int) (k1y14 : Int) (k1y15 : Bool) (k1yo3 : (List (Int × (Int × (Int × Int))))) (k1yo9 : (List ByteArray)) (k1yo12 : (List ByteArray))
    (h1 : SC cfg.P i_impl_node_addresses [.s (.v .tree a0.2), .s (.v .str (⟨#[]⟩ : ByteArray))] (.s (.own t_string .str c1)) [])
    (h2 : SC cfg.P i_impl_node_addresses [.s (.v .tree a0.1), .s (.v .str (⟨#[]⟩ : ByteArray))] (.s (.own t_string .str c2)) [])
    (h3 : LoopSC cfg.P 1 (lb P_impl_pair_pieces 0) (impl_pair_pieces_L0a ((List.length c2 : Nat) : Int) (0 : Int) ([] : List (Int × (Int × (Int × Int)))) c1 c2) (.exit 0) (impl_pair_pieces_L0X1 k1y13 k1y14 k1y15 k1yo3 k1yo9 k1yo12)) :
    SC cfg.P i_impl_pair_pieces [.s (.v (.pr .tree .tree) a0)] (.s (.own t_impl_piece (.pr (.int .i64) (.pr (.int .i64) (.pr (.int .i64) (.int .i64)))) k1yo3)) [] :=
  SC_of_run cfgOK (its := [.res (.s (.own t_string .str c1)) [] [] [9], .res (.s (.own t_string .str c2)) [] [] [12], .loop (fun _ => (.exit 0, impl_pair_pieces_L0X1 k1y13 k1y14 k1y15 k1yo3 k1yo9 k1yo12))])
    (ps := [SC cfg.P i_impl_node_addresses [.s (.v .tree a0.2), .s (.v .str (⟨#[]⟩ : ByteArray))] (.s (.own t_string .str c1)) [],
      SC cfg.P i_impl_node_addresses [.s (.v .tree a0.1), .s (.v .str (⟨#[]⟩ : ByteArray))] (.s (.own t_string .str c2)) [],
      LoopSC cfg.P 1 (lb P_impl_pair_pieces 0) (impl_pair_pieces_L0a ((List.length c2 : Nat) : Int) (0 : Int) ([] : List (Int × (Int × (Int × Int)))) c1 c2) (.exit 0) (impl_pair_pieces_L0X1 k1y13 k1y14 k1y15 k1yo3 k1yo9 k1yo12)]) (by kernel_rfl) ⟨h1, h2, h3, trivial⟩ get_impl_pair_pieces (by decide)

/-! ### spec_trAddresses -/


theorem spec_trAddresses_p1 (a0 : ByteArray) (a1 : ByteArray)
    (h1 : SC cfg.P i_spec_trLeaf [.s (.v .str a0)] (.s (.v .bool true)) []) :
    SC cfg.P i_spec_trAddresses [.s (.v .str a0), .s (.v .str a1)] (.s (.own t_string .str ([a1] : List ByteArray))) [] :=
  SC_of_run cfgOK (its := [.res (.s (.v .bool true)) [] [] []])
    (ps := [SC cfg.P i_spec_trLeaf [.s (.v .str a0)] (.s (.v .bool true)) []]) (by kernel_rfl) ⟨h1, trivial⟩ get_spec_trAddresses (by decide)

theorem spec_trAddresses_p2 (a0 : ByteArray) (a1 : ByteArray) (c2a : ByteArray) (c2b : ByteArray) (c3 : (List ByteArray)) (c4 : (List ByteArray))
    (h1 : SC cfg.P i_spec_trLeaf [.s (.v .str a0)] (.s (.v .bool false)) [])
    (h2 : SC cfg.P i_spec_trSides [.s (.v .str a0)] (.tup [.v .str c2a, .v .str c2b]) [])
    (h3 : (a1).size + ((⟨#[48]⟩ : ByteArray)).size ≤ 2 ^ 62)
    (h4 : SC cfg.P i_spec_trAddresses [.s (.v .str c2a), .s (.v .str (a1 ++ (⟨#[48]⟩ : ByteArray)))] (.s (.own t_string .str c3)) [])
    (h5 : (a1).size + ((⟨#[49]⟩ : ByteArray)).size ≤ 2 ^ 62)
    (h6 : SC cfg.P i_spec_trAddresses [.s (.v .str c2b), .s (.v .str (a1 ++ (⟨#[49]⟩ : ByteArray)))] (.s (.own t_string .str c4)) [])
    (h7 : sizeOK (List.length c3 + List.length c4)) :
    SC cfg.P i_spec_trAddresses [.s (.v .str a0), .s (.v .str a1)] (.s (.own t_string .str (c3 ++ c4))) [] :=
  SC_of_run cfgOK (its := [.res (.s (.v .bool false)) [] [] [], .res (.tup [.v .str c2a, .v .str c2b]) [] [] [], .res (.s (.own t_string .str c3)) [] [] [19], .res (.s (.own t_string .str c4)) [] [] [23]])
    (ps := [SC cfg.P i_spec_trLeaf [.s (.v .str a0)] (.s (.v .bool false)) [],
      SC cfg.P i_spec_trSides [.s (.v .str a0)] (.tup [.v .str c2a, .v .str c2b]) [],
      (a1).size + ((⟨#[48]⟩ : ByteArray)).size ≤ 2 ^ 62,
      SC cfg.P i_spec_trAddresses [.s (.v .str c2a), .s (.v .str (a1 ++ (⟨#[48]⟩ : ByteArray)))] (.s (.own t_string .str c3)) [],
      (a1).size + ((⟨#[49]⟩ : ByteArray)).size ≤ 2 ^ 62,
      SC cfg.P i_spec_trAddresses [.s (.v .str c2b), .s (.v .str (a1 ++ (⟨#[49]⟩ : ByteArray)))] (.s (.own t_string .str c4)) [],
      sizeOK (List.length c3 + List.length c4)]) (by kernel_rfl) ⟨h1, h2, h3, h4, h5, h6, h7, trivial⟩ get_spec_trAddresses (by decide)

/-! ### spec_mpOf -/


def spec_mpOf_L0a (x0 : ByteArray) (x3 : Int) (x4 : Int) (xo2 : (Int × Int)) : St := mkSt 24 [(0, .s (.v .str x0)), (2, .s (.adr 2 none)), (3, .s (.v (.int .i64) x3)), (4, .s (.v (.int .i64) x4))] [(2, .box (.pr (.int .i64) (.int .i64)) xo2 false)]

def spec_mpOf_L0X1 (y0 : ByteArray) (y3 : Int) (y4 : Int) (y8 : Bool) (yo2 : (Int × Int)) : St := mkSt 24 [(0, .s (.v .str y0)), (2, .s (.adr 2 none)), (3, .s (.v (.int .i64) y3)), (4, .s (.v (.int .i64) y4)), (8, .s (.v .bool y8))] [(2, .box (.pr (.int .i64) (.int .i64)) yo2 false)]

theorem spec_mpOf_L0a_i1 (x0 : ByteArray) (x3 : Int) (x4 : Int) (xo2 : (Int × Int))
    (h1 : x4 < ((x0).size : Int))
    (h2 : 0 ≤ x4)
    {e : AEx} {st : St} (next : LoopSC cfg.P 1 (lb P_spec_mpOf 0) (spec_mpOf_L0a x0 (IntKind.wrap .i64 ((IntKind.wrap .i64 ((2 : Int) * x3)) + (IntKind.wrap .i64 (IntKind.wrap .u8 ((bt x0 x4) - (48 : Int)))))) (IntKind.wrap .i64 (x4 + (1 : Int))) xo2) e st) :
    LoopSC cfg.P 1 (lb P_spec_mpOf 0) (spec_mpOf_L0a x0 x3 x4 xo2) e st :=
  loop_iter cfgOK (f := i_spec_mpOf) (its := [.bool true])
    (ps := [decide (x4 < ((x0).size : Int)) = true,
      0 ≤ x4,
      x4 < ((x0).size : Int)]) (st1 := spec_mpOf_L0a x0 (IntKind.wrap .i64 ((IntKind.wrap .i64 ((2 : Int) * x3)) + (IntKind.wrap .i64 (IntKind.wrap .u8 ((bt x0 x4) - (48 : Int)))))) (IntKind.wrap .i64 (x4 + (1 : Int))) xo2) (by kernel_rfl) ⟨(decide_eq_true h1), h2, h1, trivial⟩ next

theorem spec_mpOf_L0a_x2 (x0 : ByteArray) (x3 : Int) (x4 : Int) (xo2 : (Int × Int))
    (h1 : ¬ (x4 < ((x0).size : Int))) :
    LoopSC cfg.P 1 (lb P_spec_mpOf 0) (spec_mpOf_L0a x0 x3 x4 xo2) (.exit 0) (spec_mpOf_L0X1 x0 x3 x4 false xo2) :=
  loop_out cfgOK (f := i_spec_mpOf) (its := [.bool false])
    (ps := [decide (x4 < ((x0).size : Int)) = false]) (by kernel_rfl) ⟨(decide_eq_false h1), trivial⟩ (fun h => by cases h)

theorem spec_mpOf_p1 (a0 : ByteArray) (k1y0 : ByteArray) (k1y3 : Int) (k1y4 : Int) (k1y8 : Bool) (k1yo2 : (Int × Int)) (c1 : (Int × Int))
    (h1 : LoopSC cfg.P 1 (lb P_spec_mpOf 0) (spec_mpOf_L0a a0 (0 : Int) (0 : Int) ((0 : Int), (0 : Int))) (.exit 0) (spec_mpOf_L0X1 k1y0 k1y3 k1y4 k1y8 k1yo2))
    (h2 : 0 ≤ ((k1y0).size : Int))
    (h3 : SC cfg.P i_spec_mpShort [.s (.v (.int .i64) k1y3), .s (.v (.int .i64) (IntKind.wrap .i64 ((1 : Int) * 2 ^ (min (((k1y0).size : Int)).toNat (IntKind.bits .i64)))))] (.s (.v (.pr (.int .i64) (.int .i64)) c1)) []) :
    SC cfg.P i_spec_mpOf [.s (.v .str a0)] (.s (.v (.pr (.int .i64) (.int .i64)) c1)) [] :=
  SC_of_run cfgOK (its := [.loop (fun _ => (.exit 0, spec_mpOf_L0X1 k1y0 k1y3 k1y4 k1y8 k1yo2)), .res (.s (.v (.pr (.int .i64) (.int .i64)) c1)) [] [] []])
    (ps := [LoopSC cfg.P 1 (lb P_spec_mpOf 0) (spec_mpOf_L0a a0 (0 : Int) (0 : Int) ((0 : Int), (0 : Int))) (.exit 0) (spec_mpOf_L0X1 k1y0 k1y3 k1y4 k1y8 k1yo2),
      0 ≤ ((k1y0).size : Int),
      SC cfg.P i_spec_mpShort [.s (.v (.int .i64) k1y3), .s (.v (.int .i64) (IntKind.wrap .i64 ((1 : Int) * 2 ^ (min (((k1y0).size : Int)).toNat (IntKind.bits .i64)))))] (.s (.v (.pr (.int .i64) (.int .i64)) c1)) []]) (by kernel_rfl) ⟨h1, h2, h3, trivial⟩ get_spec_mpOf (by decide)

/-! ### impl_placeOf -/


def impl_placeOf_L0a (x0 : ByteArray) (x3 : Int) (x4 : Int) (x7 : Int) (x8 : Int) : St := mkSt 22 [(0, .s (.v .str x0)), (3, .s (.v (.int .i64) x3)), (4, .s (.v (.int .i64) x4)), (7, .s (.v (.int .i64) x7)), (8, .s (.v (.int .i64) x8))] []

def impl_placeOf_L0X1 (y0 : ByteArray) (y3 : Int) (y4 : Int) (y7 : Int) (y8 : Int) (y9 : Bool) : St := mkSt 22 [(0, .s (.v .str y0)), (3, .s (.v (.int .i64) y3)), (4, .s (.v (.int .i64) y4)), (7, .s (.v (.int .i64) y7)), (8, .s (.v (.int .i64) y8)), (9, .s (.v .bool y9))] []

theorem impl_placeOf_L0a_i1 (x0 : ByteArray) (x3 : Int) (x4 : Int) (x7 : Int) (x8 : Int)
    (h1 : x8 < x7)
    (h2 : (2 : Int) ≠ 0)
    (h3 : 0 ≤ x8)
    (h4 : x8 < ((x0).size : Int))
    (h5 : (bt x0 x8) = (49 : Int))
    {e : AEx} {st : St} (next : LoopSC cfg.P 1 (lb P_impl_placeOf 0) (impl_placeOf_L0a x0 (IntKind.wrap .i64 (x3 + (IntKind.wrap .i64 (Int.tdiv x4 (2 : Int))))) (IntKind.wrap .i64 (Int.tdiv x4 (2 : Int))) x7 (IntKind.wrap .i64 (x8 + (1 : Int)))) e st) :
    LoopSC cfg.P 1 (lb P_impl_placeOf 0) (impl_placeOf_L0a x0 x3 x4 x7 x8) e st :=
  loop_iter cfgOK (f := i_impl_placeOf) (its := [.bool true, .bool true])
    (ps := [decide (x8 < x7) = true,
      (2 : Int) ≠ 0,
      0 ≤ x8,
      x8 < ((x0).size : Int),
      ((bt x0 x8) == (49 : Int)) = true]) (st1 := impl_placeOf_L0a x0 (IntKind.wrap .i64 (x3 + (IntKind.wrap .i64 (Int.tdiv x4 (2 : Int))))) (IntKind.wrap .i64 (Int.tdiv x4 (2 : Int))) x7 (IntKind.wrap .i64 (x8 + (1 : Int)))) (by kernel_rfl) ⟨(decide_eq_true h1), h2, h3, h4, (beq_iff_eq.mpr h5), trivial⟩ next

theorem impl_placeOf_L0a_i2 (x0 : ByteArray) (x3 : Int) (x4 : Int) (x7 : Int) (x8 : Int)
    (h1 : x8 < x7)
    (h2 : (2 : Int) ≠ 0)
    (h3 : 0 ≤ x8)
    (h4 : x8 < ((x0).size : Int))
    (h5 : (bt x0 x8) ≠ (49 : Int))
    {e : AEx} {st : St} (next : LoopSC cfg.P 1 (lb P_impl_placeOf 0) (impl_placeOf_L0a x0 x3 (IntKind.wrap .i64 (Int.tdiv x4 (2 : Int))) x7 (IntKind.wrap .i64 (x8 + (1 : Int)))) e st) :
    LoopSC cfg.P 1 (lb P_impl_placeOf 0) (impl_placeOf_L0a x0 x3 x4 x7 x8) e st :=
  loop_iter cfgOK (f := i_impl_placeOf) (its := [.bool true, .bool false])
    (ps := [decide (x8 < x7) = true,
      (2 : Int) ≠ 0,
      0 ≤ x8,
      x8 < ((x0).size : Int),
      ((bt x0 x8) == (49 : Int)) = false]) (st1 := impl_placeOf_L0a x0 x3 (IntKind.wrap .i64 (Int.tdiv x4 (2 : Int))) x7 (IntKind.wrap .i64 (x8 + (1 : Int)))) (by kernel_rfl) ⟨(decide_eq_true h1), h2, h3, h4, (beq_eq_false_iff_ne.mpr h5), trivial⟩ next

theorem impl_placeOf_L0a_x3 (x0 : ByteArray) (x3 : Int) (x4 : Int) (x7 : Int) (x8 : Int)
    (h1 : ¬ (x8 < x7)) :
    LoopSC cfg.P 1 (lb P_impl_placeOf 0) (impl_placeOf_L0a x0 x3 x4 x7 x8) (.exit 0) (impl_placeOf_L0X1 x0 x3 x4 x7 x8 false) :=
  loop_out cfgOK (f := i_impl_placeOf) (its := [.bool false])
    (ps := [decide (x8 < x7) = false]) (by kernel_rfl) ⟨(decide_eq_false h1), trivial⟩ (fun h => by cases h)

theorem impl_placeOf_p1 (a0 : ByteArray) (k1y0 : ByteArray) (k1y3 : Int) (k1y4 : Int) (k1y7 : Int) (k1y8 : Int) (k1y9 : Bool)
    (h1 : LoopSC cfg.P 1 (lb P_impl_placeOf 0) (impl_placeOf_L0a a0 (0 : Int) (1099511627776 : Int) ((a0).size : Int) (0 : Int)) (.exit 0) (impl_placeOf_L0X1 k1y0 k1y3 k1y4 k1y7 k1y8 k1y9)) :
    SC cfg.P i_impl_placeOf [.s (.v .str a0)] (.s (.v (.int .i64) k1y3)) [] :=
  SC_of_run cfgOK (its := [.loop (fun _ => (.exit 0, impl_placeOf_L0X1 k1y0 k1y3 k1y4 k1y7 k1y8 k1y9))])
    (ps := [LoopSC cfg.P 1 (lb P_impl_placeOf 0) (impl_placeOf_L0a a0 (0 : Int) (1099511627776 : Int) ((a0).size : Int) (0 : Int)) (.exit 0) (impl_placeOf_L0X1 k1y0 k1y3 k1y4 k1y7 k1y8 k1y9)]) (by kernel_rfl) ⟨h1, trivial⟩ get_impl_placeOf (by decide)

/-! ### impl_piece_end -/


theorem impl_piece_end_p1 (a0 : (Int × (Int × (Int × Int))))
    (h1 : 0 ≤ a0.2.2.1) :
    SC cfg.P i_impl_piece_end [.s (.v (.pr (.int .i64) (.pr (.int .i64) (.pr (.int .i64) (.int .i64)))) a0)] (.s (.v (.int .i64) (IntKind.wrap .i64 (a0.1 + (Int.fdiv (1099511627776 : Int) (2 ^ (min (a0.2.2.1).toNat (IntKind.bits .i64)))))))) [] :=
  SC_of_run cfgOK (its := [])
    (ps := [0 ≤ a0.2.2.1]) (by kernel_rfl) ⟨h1, trivial⟩ get_impl_piece_end (by decide)

/-! ### impl_piece_slope -/


theorem impl_piece_slope_p1 (a0 : (Int × (Int × (Int × Int))))
     :
    SC cfg.P i_impl_piece_slope [.s (.v (.pr (.int .i64) (.pr (.int .i64) (.pr (.int .i64) (.int .i64)))) a0)] (.s (.v (.int .i64) (IntKind.wrap .i64 (a0.2.2.1 - a0.2.2.2)))) [] :=
  SC_of_run cfgOK (its := [])
    (ps := []) (by kernel_rfl) trivial get_impl_piece_slope (by decide)

/-! ### spec_mpShort -/


theorem spec_mpShort_p2 (a0 : Int) (a1 : Int) (c1 : Int)
    (h1 : SC cfg.P i_spec_mpGcd [.s (.v (.int .i64) a0), .s (.v (.int .i64) a1)] (.s (.v (.int .i64) c1)) [])
    (h2 : c1 ≠ (0 : Int))
    (h3 : c1 ≠ 0) :
    SC cfg.P i_spec_mpShort [.s (.v (.int .i64) a0), .s (.v (.int .i64) a1)] (.s (.v (.pr (.int .i64) (.int .i64)) ((IntKind.wrap .i64 (Int.tdiv a0 c1)), (IntKind.wrap .i64 (Int.tdiv a1 c1))))) [] :=
  SC_of_run cfgOK (its := [.res (.s (.v (.int .i64) c1)) [] [] [], .bool false])
    (ps := [SC cfg.P i_spec_mpGcd [.s (.v (.int .i64) a0), .s (.v (.int .i64) a1)] (.s (.v (.int .i64) c1)) [],
      (c1 == (0 : Int)) = false,
      c1 ≠ 0,
      c1 ≠ 0]) (by kernel_rfl) ⟨h1, (beq_eq_false_iff_ne.mpr h2), h3, h3, trivial⟩ get_spec_mpShort (by decide)

/-! ### spec_mpGcd -/


def spec_mpGcd_L0a (x0 : Int) (x1 : Int) : St := mkSt 12 [(0, .s (.v (.int .i64) x0)), (1, .s (.v (.int .i64) x1))] []

def spec_mpGcd_L0X1 (y0 : Int) (y1 : Int) (y6 : Bool) : St := mkSt 12 [(0, .s (.v (.int .i64) y0)), (1, .s (.v (.int .i64) y1)), (6, .s (.v .bool y6))] []

theorem spec_mpGcd_L0a_i1 (x0 : Int) (x1 : Int)
    (h1 : x1 > (0 : Int))
    (h2 : x1 ≠ 0)
    {e : AEx} {st : St} (next : LoopSC cfg.P 2 (lb P_spec_mpGcd 0) (spec_mpGcd_L0a x1 (Int.tmod x0 x1)) e st) :
    LoopSC cfg.P 2 (lb P_spec_mpGcd 0) (spec_mpGcd_L0a x0 x1) e st :=
  loop_iter cfgOK (f := i_spec_mpGcd) (its := [.bool true])
    (ps := [decide (x1 > (0 : Int)) = true,
      x1 ≠ 0]) (st1 := spec_mpGcd_L0a x1 (Int.tmod x0 x1)) (by kernel_rfl) ⟨(decide_eq_true h1), h2, trivial⟩ next

theorem spec_mpGcd_L0a_x2 (x0 : Int) (x1 : Int)
    (h1 : ¬ (x1 > (0 : Int))) :
    LoopSC cfg.P 2 (lb P_spec_mpGcd 0) (spec_mpGcd_L0a x0 x1) (.exit 0) (spec_mpGcd_L0X1 x0 x1 false) :=
  loop_out cfgOK (f := i_spec_mpGcd) (its := [.bool false])
    (ps := [decide (x1 > (0 : Int)) = false]) (by kernel_rfl) ⟨(decide_eq_false h1), trivial⟩ (fun h => by cases h)

theorem spec_mpGcd_p1 (a0 : Int) (a1 : Int) (k1y0 : Int) (k1y1 : Int) (k1y6 : Bool)
    (h1 : LoopSC cfg.P 2 (lb P_spec_mpGcd 0) (spec_mpGcd_L0a a0 a1) (.exit 0) (spec_mpGcd_L0X1 k1y0 k1y1 k1y6)) :
    SC cfg.P i_spec_mpGcd [.s (.v (.int .i64) a0), .s (.v (.int .i64) a1)] (.s (.v (.int .i64) k1y0)) [] :=
  SC_of_run cfgOK (its := [.loop (fun _ => (.exit 0, spec_mpGcd_L0X1 k1y0 k1y1 k1y6))])
    (ps := [LoopSC cfg.P 2 (lb P_spec_mpGcd 0) (spec_mpGcd_L0a a0 a1) (.exit 0) (spec_mpGcd_L0X1 k1y0 k1y1 k1y6)]) (by kernel_rfl) ⟨h1, trivial⟩ get_spec_mpGcd (by decide)

end Go.AI
