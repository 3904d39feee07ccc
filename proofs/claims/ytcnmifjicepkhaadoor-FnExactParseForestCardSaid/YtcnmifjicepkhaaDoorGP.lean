/- A part of the road: what it proves stands in its last texts. -/
import Derived.Test.YtcnmifjicepkhaaDoorSIds
import Derived.Test.YtcnmifjicepkhaaDoorProg
set_option autoImplicit false
set_option maxRecDepth 100000
set_option linter.unusedVariables false
namespace Go.AI
open Go.Proofs

/-! ### laws_FnExactParseForest -/


theorem laws_FnExactParseForest_p1 (a0 : ByteArray)
    (h1 : ((a0).size : Int) > (1048576 : Int)) :
    SC cfg.P i_laws_FnExactParseForest [.s (.v .str a0)] (.s (.v .bool true)) [] :=
  SC_of_run cfgOK (its := [.bool true])
    (ps := [decide (((a0).size : Int) > (1048576 : Int)) = true]) (by kernel_rfl) ⟨(decide_eq_true h1), trivial⟩ get_laws_FnExactParseForest (by decide)

theorem laws_FnExactParseForest_p2 (a0 : ByteArray) (c1a : (List ByteArray)) (c1b : Bool) (c2a : (List ByteArray)) (c2b : Bool) (c4 : Int) (c4o0 : (List ByteArray)) (c5 : Int) (c6a : (List ByteArray)) (c6b : Bool) (c8 : Int)
    (h1 : ¬ (((a0).size : Int) > (1048576 : Int)))
    (h2 : SC cfg.P i_spec_ParseForest [.s (.v .str a0)] (.tup [.own t_string .str c1a, .v .bool c1b]) [])
    (h3 : SC cfg.P i_impl_ParseForest [.s (.v .str a0)] (.tup [.own t_string .str c2a, .v .bool c2b]) [])
    (h4 : SC cfg.P i_laws_eqStringS [.s (.v (.sl .str) c2a), .s (.v (.sl .str) c1a)] (.s (.v .bool true)) [])
    (h5 : (!(c2b == c1b)) = false)
    (h6 : SC cfg.P i_laws_markStringS [.s (.msl t_string .str c2a), .s (.v (.int .i64) (1 : Int))] (.s (.v (.int .i64) c4)) [.row t_string .str c4o0])
    (h7 : SC cfg.P i_laws_heldStringS [.s (.v (.sl .str) c4o0), .s (.v (.int .i64) (1 : Int))] (.s (.v (.int .i64) c5)) [])
    (h8 : ¬ (c5 < (0 : Int)))
    (h9 : c5 = c4)
    (h10 : SC cfg.P i_impl_ParseForest [.s (.v .str a0)] (.tup [.own t_string .str c6a, .v .bool c6b]) [])
    (h11 : SC cfg.P i_laws_eqStringS [.s (.v (.sl .str) c6a), .s (.v (.sl .str) c1a)] (.s (.v .bool true)) [])
    (h12 : (!(c6b == c1b)) = false)
    (h13 : SC cfg.P i_laws_heldStringS [.s (.v (.sl .str) c4o0), .s (.v (.int .i64) (1 : Int))] (.s (.v (.int .i64) c8)) [])
    (h14 : ¬ (c8 < (0 : Int)))
    (h15 : c8 = c4) :
    SC cfg.P i_laws_FnExactParseForest [.s (.v .str a0)] (.s (.v .bool true)) [] :=
  SC_of_run cfgOK (its := [.bool false, .res (.tup [.own t_string .str c1a, .v .bool c1b]) [] [] [16], .res (.tup [.own t_string .str c2a, .v .bool c2b]) [] [] [21], .res (.s (.v .bool true)) [] [] [], .bool false, .res (.s (.v (.int .i64) c4)) [.row t_string .str c4o0] [0] [], .res (.s (.v (.int .i64) c5)) [] [] [], .bool false, .bool false, .res (.tup [.own t_string .str c6a, .v .bool c6b]) [] [] [46], .res (.s (.v .bool true)) [] [] [], .bool false, .res (.s (.v (.int .i64) c8)) [] [] [], .bool false, .bool false])
    (ps := [decide (((a0).size : Int) > (1048576 : Int)) = false,
      SC cfg.P i_spec_ParseForest [.s (.v .str a0)] (.tup [.own t_string .str c1a, .v .bool c1b]) [],
      SC cfg.P i_impl_ParseForest [.s (.v .str a0)] (.tup [.own t_string .str c2a, .v .bool c2b]) [],
      SC cfg.P i_laws_eqStringS [.s (.v (.sl .str) c2a), .s (.v (.sl .str) c1a)] (.s (.v .bool true)) [],
      (!(c2b == c1b)) = false,
      SC cfg.P i_laws_markStringS [.s (.msl t_string .str c2a), .s (.v (.int .i64) (1 : Int))] (.s (.v (.int .i64) c4)) [.row t_string .str c4o0],
      SC cfg.P i_laws_heldStringS [.s (.v (.sl .str) c4o0), .s (.v (.int .i64) (1 : Int))] (.s (.v (.int .i64) c5)) [],
      decide (c5 < (0 : Int)) = false,
      (c5 != c4) = false,
      SC cfg.P i_impl_ParseForest [.s (.v .str a0)] (.tup [.own t_string .str c6a, .v .bool c6b]) [],
      SC cfg.P i_laws_eqStringS [.s (.v (.sl .str) c6a), .s (.v (.sl .str) c1a)] (.s (.v .bool true)) [],
      (!(c6b == c1b)) = false,
      SC cfg.P i_laws_heldStringS [.s (.v (.sl .str) c4o0), .s (.v (.int .i64) (1 : Int))] (.s (.v (.int .i64) c8)) [],
      decide (c8 < (0 : Int)) = false,
      (c8 != c4) = false]) (by kernel_rfl) ⟨(decide_eq_false h1), h2, h3, h4, h5, h6, h7, (decide_eq_false h8), (bne_f h9), h10, h11, h12, h13, (decide_eq_false h14), (bne_f h15), trivial⟩ get_laws_FnExactParseForest (by decide)

/-! ### spec_ParseForest -/


def spec_ParseForest_L0a (x11 : Int) (x12 : Int) (xo4 : (List ByteArray)) (xo10 : (List ByteArray)) : St := mkSt 28 [(4, .s (.osl 4 0)), (10, .s (.osl 10 0)), (11, .s (.v (.int .i64) x11)), (12, .s (.v (.int .i64) x12))] [(4, .row t_string .str xo4 0 false), (10, .row t_string .str xo10 0 false)]

def spec_ParseForest_L0X1 (y3 : Bool) (yo2 : (List ByteArray)) : St := mkSt 28 [(2, .s (.osl 2 0)), (3, .s (.v .bool y3))] [(2, .row t_string .str yo2 0 false)]

def spec_ParseForest_L0X2 (y11 : Int) (y12 : Int) (y13 : Bool) (yo4 : (List ByteArray)) (yo10 : (List ByteArray)) : St := mkSt 28 [(4, .s (.osl 4 0)), (10, .s (.osl 10 0)), (11, .s (.v (.int .i64) y11)), (12, .s (.v (.int .i64) y12)), (13, .s (.v .bool y13))] [(4, .row t_string .str yo4 0 false), (10, .row t_string .str yo10 0 false)]

theorem spec_ParseForest_L0a_x1 (x11 : Int) (x12 : Int) (xo4 : (List ByteArray)) (xo10 : (List ByteArray))
    (h1 : x12 < x11)
    (h2 : 0 ≤ x12)
    (h3 : x12 < (List.length xo10 : Int))
    (h4 : (x12).toNat < List.length xo10)
    (h5 : ((List.length xo4 : Nat) : Int) = (8 : Int)) :
    LoopSC cfg.P 1 (lb P_spec_ParseForest 0) (spec_ParseForest_L0a x11 x12 xo4 xo10) (.ret) (spec_ParseForest_L0X1 false ([] : List ByteArray)) :=
  loop_out cfgOK (f := i_spec_ParseForest) (its := [.bool true, .bool true])
    (ps := [decide (x12 < x11) = true,
      0 ≤ x12,
      x12 < (List.length xo10 : Int),
      (x12).toNat < List.length xo10,
      (((List.length xo4 : Nat) : Int) == (8 : Int)) = true]) (by kernel_rfl) ⟨(decide_eq_true h1), h2, h3, h4, (beq_t h5), trivial⟩ (fun h => by cases h)

theorem spec_ParseForest_L0a_i2 (x11 : Int) (x12 : Int) (xo4 : (List ByteArray)) (xo10 : (List ByteArray))
    (h1 : x12 < x11)
    (h2 : 0 ≤ x12)
    (h3 : x12 < (List.length xo10 : Int))
    (h4 : (x12).toNat < List.length xo10)
    (h5 : ((List.length xo4 : Nat) : Int) ≠ (8 : Int))
    (h6 : sizeOK (List.length xo4 + List.length ([(List.getD xo10 (x12).toNat (⟨#[]⟩ : ByteArray))] : List ByteArray)))
    {e : AEx} {st : St} (next : LoopSC cfg.P 1 (lb P_spec_ParseForest 0) (spec_ParseForest_L0a x11 (IntKind.wrap .i64 (x12 + (1 : Int))) (xo4 ++ ([(List.getD xo10 (x12).toNat (⟨#[]⟩ : ByteArray))] : List ByteArray)) xo10) e st) :
    LoopSC cfg.P 1 (lb P_spec_ParseForest 0) (spec_ParseForest_L0a x11 x12 xo4 xo10) e st :=
  loop_iter cfgOK (f := i_spec_ParseForest) (its := [.bool true, .bool false])
    (ps := [decide (x12 < x11) = true,
      0 ≤ x12,
      x12 < (List.length xo10 : Int),
      (x12).toNat < List.length xo10,
      (((List.length xo4 : Nat) : Int) == (8 : Int)) = false,
      sizeOK (List.length xo4 + List.length ([(List.getD xo10 (x12).toNat (⟨#[]⟩ : ByteArray))] : List ByteArray))]) (st1 := spec_ParseForest_L0a x11 (IntKind.wrap .i64 (x12 + (1 : Int))) (xo4 ++ ([(List.getD xo10 (x12).toNat (⟨#[]⟩ : ByteArray))] : List ByteArray)) xo10) (by kernel_rfl) ⟨(decide_eq_true h1), h2, h3, h4, (beq_f h5), h6, trivial⟩ next

theorem spec_ParseForest_L0a_x3 (x11 : Int) (x12 : Int) (xo4 : (List ByteArray)) (xo10 : (List ByteArray))
    (h1 : ¬ (x12 < x11)) :
    LoopSC cfg.P 1 (lb P_spec_ParseForest 0) (spec_ParseForest_L0a x11 x12 xo4 xo10) (.exit 0) (spec_ParseForest_L0X2 x11 x12 false xo4 xo10) :=
  loop_out cfgOK (f := i_spec_ParseForest) (its := [.bool false])
    (ps := [decide (x12 < x11) = false]) (by kernel_rfl) ⟨(decide_eq_false h1), trivial⟩ (fun h => by cases h)

theorem spec_ParseForest_p1 (a0 : ByteArray)
    (h1 : a0 = (⟨#[45]⟩ : ByteArray)) :
    SC cfg.P i_spec_ParseForest [.s (.v .str a0)] (.tup [.own t_string .str ([] : List ByteArray), .v .bool true]) [] :=
  SC_of_run cfgOK (its := [.bool true])
    (ps := [((a0).toList == ((⟨#[45]⟩ : ByteArray)).toList) = true]) (by kernel_rfl) ⟨(seq_t h1), trivial⟩ get_spec_ParseForest (by decide)

theorem spec_ParseForest_p2 (a0 : ByteArray) (c1 : (List ByteArray)) (k1y3 : Bool) (k1yo2 : (List ByteArray))
    (h1 : a0 ≠ (⟨#[45]⟩ : ByteArray))
    (h2 : SC cfg.P i_spec_l1Split [.s (.v .str a0), .s (.v (.int .u8) (32 : Int))] (.s (.own t_string .str c1)) [])
    (h3 : LoopSC cfg.P 1 (lb P_spec_ParseForest 0) (spec_ParseForest_L0a ((List.length c1 : Nat) : Int) (0 : Int) ([] : List ByteArray) c1) (.ret) (spec_ParseForest_L0X1 k1y3 k1yo2)) :
    SC cfg.P i_spec_ParseForest [.s (.v .str a0)] (.tup [.own t_string .str k1yo2, .v .bool k1y3]) [] :=
  SC_of_run cfgOK (its := [.bool false, .res (.s (.own t_string .str c1)) [] [] [10], .loop (fun _ => (.ret, spec_ParseForest_L0X1 k1y3 k1yo2))])
    (ps := [((a0).toList == ((⟨#[45]⟩ : ByteArray)).toList) = false,
      SC cfg.P i_spec_l1Split [.s (.v .str a0), .s (.v (.int .u8) (32 : Int))] (.s (.own t_string .str c1)) [],
      LoopSC cfg.P 1 (lb P_spec_ParseForest 0) (spec_ParseForest_L0a ((List.length c1 : Nat) : Int) (0 : Int) ([] : List ByteArray) c1) (.ret) (spec_ParseForest_L0X1 k1y3 k1yo2)]) (by kernel_rfl) ⟨(seq_f h1), h2, h3, trivial⟩ get_spec_ParseForest (by decide)

theorem spec_ParseForest_p3 (a0 : ByteArray) (c1 : (List ByteArray)) (k1y11 : Int) (k1y12 : Int) (k1y13 : Bool) (k1yo4 : (List ByteArray)) (k1yo10 : (List ByteArray))
    (h1 : a0 ≠ (⟨#[45]⟩ : ByteArray))
    (h2 : SC cfg.P i_spec_l1Split [.s (.v .str a0), .s (.v (.int .u8) (32 : Int))] (.s (.own t_string .str c1)) [])
    (h3 : LoopSC cfg.P 1 (lb P_spec_ParseForest 0) (spec_ParseForest_L0a ((List.length c1 : Nat) : Int) (0 : Int) ([] : List ByteArray) c1) (.exit 0) (spec_ParseForest_L0X2 k1y11 k1y12 k1y13 k1yo4 k1yo10))
    (h4 : SC cfg.P i_spec_foGood [.s (.v (.sl .str) k1yo4)] (.s (.v .bool true)) []) :
    SC cfg.P i_spec_ParseForest [.s (.v .str a0)] (.tup [.own t_string .str k1yo4, .v .bool true]) [] :=
  SC_of_run cfgOK (its := [.bool false, .res (.s (.own t_string .str c1)) [] [] [10], .loop (fun _ => (.exit 0, spec_ParseForest_L0X2 k1y11 k1y12 k1y13 k1yo4 k1yo10)), .res (.s (.v .bool true)) [] [] []])
    (ps := [((a0).toList == ((⟨#[45]⟩ : ByteArray)).toList) = false,
      SC cfg.P i_spec_l1Split [.s (.v .str a0), .s (.v (.int .u8) (32 : Int))] (.s (.own t_string .str c1)) [],
      LoopSC cfg.P 1 (lb P_spec_ParseForest 0) (spec_ParseForest_L0a ((List.length c1 : Nat) : Int) (0 : Int) ([] : List ByteArray) c1) (.exit 0) (spec_ParseForest_L0X2 k1y11 k1y12 k1y13 k1yo4 k1yo10),
      SC cfg.P i_spec_foGood [.s (.v (.sl .str) k1yo4)] (.s (.v .bool true)) []]) (by kernel_rfl) ⟨(seq_f h1), h2, h3, h4, trivial⟩ get_spec_ParseForest (by decide)

theorem spec_ParseForest_p4 (a0 : ByteArray) (c1 : (List ByteArray)) (k1y11 : Int) (k1y12 : Int) (k1y13 : Bool) (k1yo4 : (List ByteArray)) (k1yo10 : (List ByteArray))
    (h1 : a0 ≠ (⟨#[45]⟩ : ByteArray))
    (h2 : SC cfg.P i_spec_l1Split [.s (.v .str a0), .s (.v (.int .u8) (32 : Int))] (.s (.own t_string .str c1)) [])
    (h3 : LoopSC cfg.P 1 (lb P_spec_ParseForest 0) (spec_ParseForest_L0a ((List.length c1 : Nat) : Int) (0 : Int) ([] : List ByteArray) c1) (.exit 0) (spec_ParseForest_L0X2 k1y11 k1y12 k1y13 k1yo4 k1yo10))
    (h4 : SC cfg.P i_spec_foGood [.s (.v (.sl .str) k1yo4)] (.s (.v .bool false)) []) :
    SC cfg.P i_spec_ParseForest [.s (.v .str a0)] (.tup [.own t_string .str ([] : List ByteArray), .v .bool false]) [] :=
  SC_of_run cfgOK (its := [.bool false, .res (.s (.own t_string .str c1)) [] [] [10], .loop (fun _ => (.exit 0, spec_ParseForest_L0X2 k1y11 k1y12 k1y13 k1yo4 k1yo10)), .res (.s (.v .bool false)) [] [] []])
    (ps := [((a0).toList == ((⟨#[45]⟩ : ByteArray)).toList) = false,
      SC cfg.P i_spec_l1Split [.s (.v .str a0), .s (.v (.int .u8) (32 : Int))] (.s (.own t_string .str c1)) [],
      LoopSC cfg.P 1 (lb P_spec_ParseForest 0) (spec_ParseForest_L0a ((List.length c1 : Nat) : Int) (0 : Int) ([] : List ByteArray) c1) (.exit 0) (spec_ParseForest_L0X2 k1y11 k1y12 k1y13 k1yo4 k1yo10),
      SC cfg.P i_spec_foGood [.s (.v (.sl .str) k1yo4)] (.s (.v .bool false)) []]) (by kernel_rfl) ⟨(seq_f h1), h2, h3, h4, trivial⟩ get_spec_ParseForest (by decide)

/-! ### impl_ParseForest -/


theorem impl_ParseForest_p1 (a0 : ByteArray)
    (h1 : a0 = (⟨#[45]⟩ : ByteArray)) :
    SC cfg.P i_impl_ParseForest [.s (.v .str a0)] (.tup [.own t_string .str ([] : List ByteArray), .v .bool true]) [] :=
  SC_of_run cfgOK (its := [.bool true])
    (ps := [((a0).toList == ((⟨#[45]⟩ : ByteArray)).toList) = true]) (by kernel_rfl) ⟨(seq_t h1), trivial⟩ get_impl_ParseForest (by decide)

theorem impl_ParseForest_p2 (a0 : ByteArray) (c1 : (List ByteArray)) (c3 : (List ByteArray))
    (h1 : a0 ≠ (⟨#[45]⟩ : ByteArray))
    (h2 : SC cfg.P i_strings_Split [.s (.v .str a0), .s (.v .str (⟨#[32]⟩ : ByteArray))] (.s (.own t_string .str c1)) [])
    (h3 : SC cfg.P i_impl_IsForest [.s (.v (.sl .str) c1)] (.s (.v .bool true)) [])
    (h4 : SC cfg.P i_slices_Clone [.s (.v (.sl .str) c1)] (.s (.own t_string .str c3)) []) :
    SC cfg.P i_impl_ParseForest [.s (.v .str a0)] (.tup [.own t_string .str c3, .v .bool true]) [] :=
  SC_of_run cfgOK (its := [.bool false, .res (.s (.own t_string .str c1)) [] [] [8], .res (.s (.v .bool true)) [] [] [], .res (.s (.own t_string .str c3)) [] [] [13]])
    (ps := [((a0).toList == ((⟨#[45]⟩ : ByteArray)).toList) = false,
      SC cfg.P i_strings_Split [.s (.v .str a0), .s (.v .str (⟨#[32]⟩ : ByteArray))] (.s (.own t_string .str c1)) [],
      SC cfg.P i_impl_IsForest [.s (.v (.sl .str) c1)] (.s (.v .bool true)) [],
      SC cfg.P i_slices_Clone [.s (.v (.sl .str) c1)] (.s (.own t_string .str c3)) []]) (by kernel_rfl) ⟨(seq_f h1), h2, h3, h4, trivial⟩ get_impl_ParseForest (by decide)

theorem impl_ParseForest_p3 (a0 : ByteArray) (c1 : (List ByteArray))
    (h1 : a0 ≠ (⟨#[45]⟩ : ByteArray))
    (h2 : SC cfg.P i_strings_Split [.s (.v .str a0), .s (.v .str (⟨#[32]⟩ : ByteArray))] (.s (.own t_string .str c1)) [])
    (h3 : SC cfg.P i_impl_IsForest [.s (.v (.sl .str) c1)] (.s (.v .bool false)) []) :
    SC cfg.P i_impl_ParseForest [.s (.v .str a0)] (.tup [.own t_string .str ([] : List ByteArray), .v .bool false]) [] :=
  SC_of_run cfgOK (its := [.bool false, .res (.s (.own t_string .str c1)) [] [] [8], .res (.s (.v .bool false)) [] [] []])
    (ps := [((a0).toList == ((⟨#[45]⟩ : ByteArray)).toList) = false,
      SC cfg.P i_strings_Split [.s (.v .str a0), .s (.v .str (⟨#[32]⟩ : ByteArray))] (.s (.own t_string .str c1)) [],
      SC cfg.P i_impl_IsForest [.s (.v (.sl .str) c1)] (.s (.v .bool false)) []]) (by kernel_rfl) ⟨(seq_f h1), h2, h3, trivial⟩ get_impl_ParseForest (by decide)

end Go.AI
