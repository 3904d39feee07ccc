/- A part of the road: what it proves stands in its last texts. -/
import Derived.Test.YtnoajkfmokcekaaSIds
import Derived.Test.YtnoajkfmokcekaaProg
set_option autoImplicit false
set_option maxRecDepth 100000
set_option linter.unusedVariables false
namespace Go.AI
open Go.Proofs

/-! ### spec_ParsePair -/


theorem spec_ParsePair_p1 (a0 : ByteArray) (c1a : (ByteArray × ByteArray)) (c1b : Bool)
    (h1 : SC cfg.P i_spec_prParse [.s (.v .str a0)] (.tup [.v (.pr .str .str) c1a, .v .bool c1b]) []) :
    SC cfg.P i_spec_ParsePair [.s (.v .str a0)] (.tup [.v (.pr .str .str) c1a, .v .bool c1b]) [] :=
  SC_of_run cfgOK (its := [.res (.tup [.v (.pr .str .str) c1a, .v .bool c1b]) [] [] []])
    (ps := [SC cfg.P i_spec_prParse [.s (.v .str a0)] (.tup [.v (.pr .str .str) c1a, .v .bool c1b]) []]) (by kernel_rfl) ⟨h1, trivial⟩ get_spec_ParsePair (by decide)

/-! ### spec_prParse -/


theorem spec_prParse_p1 (a0 : ByteArray) (c1 : (List ByteArray))
    (h1 : SC cfg.P i_spec_l1Split [.s (.v .str a0), .s (.v (.int .u8) (62 : Int))] (.s (.own t_string .str c1)) [])
    (h2 : ((a0).size : Int) > (200 : Int)) :
    SC cfg.P i_spec_prParse [.s (.v .str a0)] (.tup [.v (.pr .str .str) ((⟨#[]⟩ : ByteArray), (⟨#[]⟩ : ByteArray)), .v .bool false]) [] :=
  SC_of_run cfgOK (its := [.res (.s (.own t_string .str c1)) [] [] [6], .bool true])
    (ps := [SC cfg.P i_spec_l1Split [.s (.v .str a0), .s (.v (.int .u8) (62 : Int))] (.s (.own t_string .str c1)) [],
      decide (((a0).size : Int) > (200 : Int)) = true]) (by kernel_rfl) ⟨h1, (decide_eq_true h2), trivial⟩ get_spec_prParse (by decide)

theorem spec_prParse_p2 (a0 : ByteArray) (c1 : (List ByteArray))
    (h1 : SC cfg.P i_spec_l1Split [.s (.v .str a0), .s (.v (.int .u8) (62 : Int))] (.s (.own t_string .str c1)) [])
    (h2 : ¬ (((a0).size : Int) > (200 : Int)))
    (h3 : ((List.length c1 : Nat) : Int) ≠ (2 : Int)) :
    SC cfg.P i_spec_prParse [.s (.v .str a0)] (.tup [.v (.pr .str .str) ((⟨#[]⟩ : ByteArray), (⟨#[]⟩ : ByteArray)), .v .bool false]) [] :=
  SC_of_run cfgOK (its := [.res (.s (.own t_string .str c1)) [] [] [6], .bool false, .bool true])
    (ps := [SC cfg.P i_spec_l1Split [.s (.v .str a0), .s (.v (.int .u8) (62 : Int))] (.s (.own t_string .str c1)) [],
      decide (((a0).size : Int) > (200 : Int)) = false,
      (((List.length c1 : Nat) : Int) != (2 : Int)) = true]) (by kernel_rfl) ⟨h1, (decide_eq_false h2), (bne_t h3), trivial⟩ get_spec_prParse (by decide)

theorem spec_prParse_p3 (a0 : ByteArray) (c1 : (List ByteArray)) (c2a : (ByteArray × ByteArray)) (c2b : Bool)
    (h1 : SC cfg.P i_spec_l1Split [.s (.v .str a0), .s (.v (.int .u8) (62 : Int))] (.s (.own t_string .str c1)) [])
    (h2 : ¬ (((a0).size : Int) > (200 : Int)))
    (h3 : ((List.length c1 : Nat) : Int) = (2 : Int))
    (h4 : (0 : Int) < (List.length c1 : Int))
    (h5 : ((0 : Int)).toNat < List.length c1)
    (h6 : (1 : Int) < (List.length c1 : Int))
    (h7 : ((1 : Int)).toNat < List.length c1)
    (h8 : SC cfg.P i_spec_prIf [.s (.v (.pr .str .str) ((List.getD c1 ((0 : Int)).toNat (⟨#[]⟩ : ByteArray)), (List.getD c1 ((1 : Int)).toNat (⟨#[]⟩ : ByteArray))))] (.tup [.v (.pr .str .str) c2a, .v .bool c2b]) []) :
    SC cfg.P i_spec_prParse [.s (.v .str a0)] (.tup [.v (.pr .str .str) c2a, .v .bool c2b]) [] :=
  SC_of_run cfgOK (its := [.res (.s (.own t_string .str c1)) [] [] [6], .bool false, .bool false, .res (.tup [.v (.pr .str .str) c2a, .v .bool c2b]) [] [] []])
    (ps := [SC cfg.P i_spec_l1Split [.s (.v .str a0), .s (.v (.int .u8) (62 : Int))] (.s (.own t_string .str c1)) [],
      decide (((a0).size : Int) > (200 : Int)) = false,
      (((List.length c1 : Nat) : Int) != (2 : Int)) = false,
      0 ≤ (0 : Int),
      (0 : Int) < (List.length c1 : Int),
      ((0 : Int)).toNat < List.length c1,
      0 ≤ (1 : Int),
      (1 : Int) < (List.length c1 : Int),
      ((1 : Int)).toNat < List.length c1,
      SC cfg.P i_spec_prIf [.s (.v (.pr .str .str) ((List.getD c1 ((0 : Int)).toNat (⟨#[]⟩ : ByteArray)), (List.getD c1 ((1 : Int)).toNat (⟨#[]⟩ : ByteArray))))] (.tup [.v (.pr .str .str) c2a, .v .bool c2b]) []]) (by kernel_rfl) ⟨h1, (decide_eq_false h2), (bne_f h3), (by decide), h4, h5, (by decide), h6, h7, h8, trivial⟩ get_spec_prParse (by decide)

/-! ### spec_l1Split -/


def spec_l1Split_L0a (x0 : ByteArray) (x1 : Int) (x6 : Int) (x7 : Int) (xo5 : (List ByteArray)) : St := mkSt 34 [(0, .s (.v .str x0)), (1, .s (.v (.int .u8) x1)), (5, .s (.osl 5 0)), (6, .s (.v (.int .i64) x6)), (7, .s (.v (.int .i64) x7))] [(5, .row t_string .str xo5 0 false)]

def spec_l1Split_L0X1 (y0 : ByteArray) (y1 : Int) (y6 : Int) (y7 : Int) (y11 : Bool) (yo5 : (List ByteArray)) : St := mkSt 34 [(0, .s (.v .str y0)), (1, .s (.v (.int .u8) y1)), (5, .s (.osl 5 0)), (6, .s (.v (.int .i64) y6)), (7, .s (.v (.int .i64) y7)), (11, .s (.v .bool y11))] [(5, .row t_string .str yo5 0 false)]

theorem spec_l1Split_L0a_i1 (x0 : ByteArray) (x1 : Int) (x6 : Int) (x7 : Int) (xo5 : (List ByteArray))
    (h1 : x7 < ((x0).size : Int))
    (h2 : 0 ≤ x7)
    (h3 : (bt x0 x7) = x1)
    (h4 : 0 ≤ x6)
    (h5 : x6 ≤ x7)
    (h6 : x7 ≤ ((x0).size : Int))
    (h7 : sizeOK (List.length xo5 + List.length ([(ByteArray.extract x0 (x6).toNat (x7).toNat)] : List ByteArray)))
    {e : AEx} {st : St} (next : LoopSC cfg.P 2 (lb P_spec_l1Split 0) (spec_l1Split_L0a x0 x1 (IntKind.wrap .i64 (x7 + (1 : Int))) (IntKind.wrap .i64 (x7 + (1 : Int))) (xo5 ++ ([(ByteArray.extract x0 (x6).toNat (x7).toNat)] : List ByteArray))) e st) :
    LoopSC cfg.P 2 (lb P_spec_l1Split 0) (spec_l1Split_L0a x0 x1 x6 x7 xo5) e st :=
  loop_iter cfgOK (f := i_spec_l1Split) (its := [.bool true, .bool true])
    (ps := [decide (x7 < ((x0).size : Int)) = true,
      0 ≤ x7,
      x7 < ((x0).size : Int),
      ((bt x0 x7) == x1) = true,
      0 ≤ x6,
      x6 ≤ x7,
      x7 ≤ ((x0).size : Int),
      sizeOK (List.length xo5 + List.length ([(ByteArray.extract x0 (x6).toNat (x7).toNat)] : List ByteArray))]) (st1 := spec_l1Split_L0a x0 x1 (IntKind.wrap .i64 (x7 + (1 : Int))) (IntKind.wrap .i64 (x7 + (1 : Int))) (xo5 ++ ([(ByteArray.extract x0 (x6).toNat (x7).toNat)] : List ByteArray))) (by kernel_rfl) ⟨(decide_eq_true h1), h2, h1, (beq_t h3), h4, h5, h6, h7, trivial⟩ next

theorem spec_l1Split_L0a_i2 (x0 : ByteArray) (x1 : Int) (x6 : Int) (x7 : Int) (xo5 : (List ByteArray))
    (h1 : x7 < ((x0).size : Int))
    (h2 : 0 ≤ x7)
    (h3 : (bt x0 x7) ≠ x1)
    {e : AEx} {st : St} (next : LoopSC cfg.P 2 (lb P_spec_l1Split 0) (spec_l1Split_L0a x0 x1 x6 (IntKind.wrap .i64 (x7 + (1 : Int))) xo5) e st) :
    LoopSC cfg.P 2 (lb P_spec_l1Split 0) (spec_l1Split_L0a x0 x1 x6 x7 xo5) e st :=
  loop_iter cfgOK (f := i_spec_l1Split) (its := [.bool true, .bool false])
    (ps := [decide (x7 < ((x0).size : Int)) = true,
      0 ≤ x7,
      x7 < ((x0).size : Int),
      ((bt x0 x7) == x1) = false]) (st1 := spec_l1Split_L0a x0 x1 x6 (IntKind.wrap .i64 (x7 + (1 : Int))) xo5) (by kernel_rfl) ⟨(decide_eq_true h1), h2, h1, (beq_f h3), trivial⟩ next

theorem spec_l1Split_L0a_x3 (x0 : ByteArray) (x1 : Int) (x6 : Int) (x7 : Int) (xo5 : (List ByteArray))
    (h1 : ¬ (x7 < ((x0).size : Int))) :
    LoopSC cfg.P 2 (lb P_spec_l1Split 0) (spec_l1Split_L0a x0 x1 x6 x7 xo5) (.exit 0) (spec_l1Split_L0X1 x0 x1 x6 x7 false xo5) :=
  loop_out cfgOK (f := i_spec_l1Split) (its := [.bool false])
    (ps := [decide (x7 < ((x0).size : Int)) = false]) (by kernel_rfl) ⟨(decide_eq_false h1), trivial⟩ (fun h => by cases h)

theorem spec_l1Split_p1 (a0 : ByteArray) (a1 : Int) (k1y0 : ByteArray) (k1y1 : Int) (k1y6 : Int) (k1y7 : Int) (k1y11 : Bool) (k1yo5 : (List ByteArray))
    (h1 : LoopSC cfg.P 2 (lb P_spec_l1Split 0) (spec_l1Split_L0a a0 a1 (0 : Int) (0 : Int) ([] : List ByteArray)) (.exit 0) (spec_l1Split_L0X1 k1y0 k1y1 k1y6 k1y7 k1y11 k1yo5))
    (h2 : 0 ≤ k1y6)
    (h3 : k1y6 ≤ ((k1y0).size : Int))
    (h4 : sizeOK (List.length k1yo5 + List.length ([(ByteArray.extract k1y0 (k1y6).toNat (((k1y0).size : Int)).toNat)] : List ByteArray))) :
    SC cfg.P i_spec_l1Split [.s (.v .str a0), .s (.v (.int .u8) a1)] (.s (.own t_string .str (k1yo5 ++ ([(ByteArray.extract k1y0 (k1y6).toNat (((k1y0).size : Int)).toNat)] : List ByteArray)))) [] :=
  SC_of_run cfgOK (its := [.loop (fun _ => (.exit 0, spec_l1Split_L0X1 k1y0 k1y1 k1y6 k1y7 k1y11 k1yo5))])
    (ps := [LoopSC cfg.P 2 (lb P_spec_l1Split 0) (spec_l1Split_L0a a0 a1 (0 : Int) (0 : Int) ([] : List ByteArray)) (.exit 0) (spec_l1Split_L0X1 k1y0 k1y1 k1y6 k1y7 k1y11 k1yo5),
      0 ≤ k1y6,
      k1y6 ≤ ((k1y0).size : Int),
      sizeOK (List.length k1yo5 + List.length ([(ByteArray.extract k1y0 (k1y6).toNat (((k1y0).size : Int)).toNat)] : List ByteArray))]) (by kernel_rfl) ⟨h1, h2, h3, h4, trivial⟩ get_spec_l1Split (by decide)

/-! ### spec_prIf -/


theorem spec_prIf_p1 (a0 : (ByteArray × ByteArray))
    (h1 : SC cfg.P i_spec_prGood [.s (.v (.pr .str .str) a0)] (.s (.v .bool true)) []) :
    SC cfg.P i_spec_prIf [.s (.v (.pr .str .str) a0)] (.tup [.v (.pr .str .str) a0, .v .bool true]) [] :=
  SC_of_run cfgOK (its := [.res (.s (.v .bool true)) [] [] []])
    (ps := [SC cfg.P i_spec_prGood [.s (.v (.pr .str .str) a0)] (.s (.v .bool true)) []]) (by kernel_rfl) ⟨h1, trivial⟩ get_spec_prIf (by decide)

theorem spec_prIf_p2 (a0 : (ByteArray × ByteArray))
    (h1 : SC cfg.P i_spec_prGood [.s (.v (.pr .str .str) a0)] (.s (.v .bool false)) []) :
    SC cfg.P i_spec_prIf [.s (.v (.pr .str .str) a0)] (.tup [.v (.pr .str .str) ((⟨#[]⟩ : ByteArray), (⟨#[]⟩ : ByteArray)), .v .bool false]) [] :=
  SC_of_run cfgOK (its := [.res (.s (.v .bool false)) [] [] []])
    (ps := [SC cfg.P i_spec_prGood [.s (.v (.pr .str .str) a0)] (.s (.v .bool false)) []]) (by kernel_rfl) ⟨h1, trivial⟩ get_spec_prIf (by decide)

end Go.AI
