/- A part of the road: what it proves stands in its last texts. -/
import Derived.Test.YtnoajkfmokcekaaSIds
import Derived.Test.YtnoajkfmokcekaaProg
set_option autoImplicit false
set_option maxRecDepth 100000
set_option linter.unusedVariables false
namespace Go.AI
open Go.Proofs

/-! ### laws_FnExactCaretKinds -/


theorem laws_FnExactCaretKinds_p1 (a0 : ByteArray)
    (h1 : ((a0).size : Int) > (1048576 : Int)) :
    SC cfg.P i_laws_FnExactCaretKinds [.s (.v .str a0)] (.s (.v .bool true)) [] :=
  SC_of_run cfgOK (its := [.bool true])
    (ps := [decide (((a0).size : Int) > (1048576 : Int)) = true]) (by kernel_rfl) ⟨(decide_eq_true h1), trivial⟩ get_laws_FnExactCaretKinds (by decide)

theorem laws_FnExactCaretKinds_p2 (a0 : ByteArray) (c1a : (List ByteArray)) (c1b : Bool) (c2a : (List ByteArray)) (c2b : Bool)
    (h1 : ¬ (((a0).size : Int) > (1048576 : Int)))
    (h2 : SC cfg.P i_spec_CaretKinds [.s (.v .str a0)] (.tup [.own t_string .str c1a, .v .bool c1b]) [])
    (h3 : SC cfg.P i_impl_CaretKinds [.s (.v .str a0)] (.tup [.own t_string .str c2a, .v .bool c2b]) [])
    (h4 : SC cfg.P i_laws_eqStringS [.s (.v (.sl .str) c2a), .s (.v (.sl .str) c1a)] (.s (.v .bool true)) [])
    (h5 : (!(c2b == c1b)) = true) :
    SC cfg.P i_laws_FnExactCaretKinds [.s (.v .str a0)] (.s (.v .bool false)) [] :=
  SC_of_run cfgOK (its := [.bool false, .res (.tup [.own t_string .str c1a, .v .bool c1b]) [] [] [16], .res (.tup [.own t_string .str c2a, .v .bool c2b]) [] [] [21], .res (.s (.v .bool true)) [] [] [], .bool true])
    (ps := [decide (((a0).size : Int) > (1048576 : Int)) = false,
      SC cfg.P i_spec_CaretKinds [.s (.v .str a0)] (.tup [.own t_string .str c1a, .v .bool c1b]) [],
      SC cfg.P i_impl_CaretKinds [.s (.v .str a0)] (.tup [.own t_string .str c2a, .v .bool c2b]) [],
      SC cfg.P i_laws_eqStringS [.s (.v (.sl .str) c2a), .s (.v (.sl .str) c1a)] (.s (.v .bool true)) [],
      (!(c2b == c1b)) = true]) (by kernel_rfl) ⟨(decide_eq_false h1), h2, h3, h4, h5, trivial⟩ get_laws_FnExactCaretKinds (by decide)

theorem laws_FnExactCaretKinds_p3 (a0 : ByteArray) (c1a : (List ByteArray)) (c1b : Bool) (c2a : (List ByteArray)) (c2b : Bool) (c4 : Int) (c4o0 : (List ByteArray)) (c5 : Int)
    (h1 : ¬ (((a0).size : Int) > (1048576 : Int)))
    (h2 : SC cfg.P i_spec_CaretKinds [.s (.v .str a0)] (.tup [.own t_string .str c1a, .v .bool c1b]) [])
    (h3 : SC cfg.P i_impl_CaretKinds [.s (.v .str a0)] (.tup [.own t_string .str c2a, .v .bool c2b]) [])
    (h4 : SC cfg.P i_laws_eqStringS [.s (.v (.sl .str) c2a), .s (.v (.sl .str) c1a)] (.s (.v .bool true)) [])
    (h5 : (!(c2b == c1b)) = false)
    (h6 : SC cfg.P i_laws_markStringS [.s (.msl t_string .str c2a), .s (.v (.int .i64) (1 : Int))] (.s (.v (.int .i64) c4)) [.row t_string .str c4o0])
    (h7 : SC cfg.P i_laws_heldStringS [.s (.v (.sl .str) c4o0), .s (.v (.int .i64) (1 : Int))] (.s (.v (.int .i64) c5)) [])
    (h8 : c5 < (0 : Int)) :
    SC cfg.P i_laws_FnExactCaretKinds [.s (.v .str a0)] (.s (.v .bool false)) [] :=
  SC_of_run cfgOK (its := [.bool false, .res (.tup [.own t_string .str c1a, .v .bool c1b]) [] [] [16], .res (.tup [.own t_string .str c2a, .v .bool c2b]) [] [] [21], .res (.s (.v .bool true)) [] [] [], .bool false, .res (.s (.v (.int .i64) c4)) [.row t_string .str c4o0] [0] [], .res (.s (.v (.int .i64) c5)) [] [] [], .bool true])
    (ps := [decide (((a0).size : Int) > (1048576 : Int)) = false,
      SC cfg.P i_spec_CaretKinds [.s (.v .str a0)] (.tup [.own t_string .str c1a, .v .bool c1b]) [],
      SC cfg.P i_impl_CaretKinds [.s (.v .str a0)] (.tup [.own t_string .str c2a, .v .bool c2b]) [],
      SC cfg.P i_laws_eqStringS [.s (.v (.sl .str) c2a), .s (.v (.sl .str) c1a)] (.s (.v .bool true)) [],
      (!(c2b == c1b)) = false,
      SC cfg.P i_laws_markStringS [.s (.msl t_string .str c2a), .s (.v (.int .i64) (1 : Int))] (.s (.v (.int .i64) c4)) [.row t_string .str c4o0],
      SC cfg.P i_laws_heldStringS [.s (.v (.sl .str) c4o0), .s (.v (.int .i64) (1 : Int))] (.s (.v (.int .i64) c5)) [],
      decide (c5 < (0 : Int)) = true]) (by kernel_rfl) ⟨(decide_eq_false h1), h2, h3, h4, h5, h6, h7, (decide_eq_true h8), trivial⟩ get_laws_FnExactCaretKinds (by decide)

theorem laws_FnExactCaretKinds_p4 (a0 : ByteArray) (c1a : (List ByteArray)) (c1b : Bool) (c2a : (List ByteArray)) (c2b : Bool) (c4 : Int) (c4o0 : (List ByteArray)) (c5 : Int)
    (h1 : ¬ (((a0).size : Int) > (1048576 : Int)))
    (h2 : SC cfg.P i_spec_CaretKinds [.s (.v .str a0)] (.tup [.own t_string .str c1a, .v .bool c1b]) [])
    (h3 : SC cfg.P i_impl_CaretKinds [.s (.v .str a0)] (.tup [.own t_string .str c2a, .v .bool c2b]) [])
    (h4 : SC cfg.P i_laws_eqStringS [.s (.v (.sl .str) c2a), .s (.v (.sl .str) c1a)] (.s (.v .bool true)) [])
    (h5 : (!(c2b == c1b)) = false)
    (h6 : SC cfg.P i_laws_markStringS [.s (.msl t_string .str c2a), .s (.v (.int .i64) (1 : Int))] (.s (.v (.int .i64) c4)) [.row t_string .str c4o0])
    (h7 : SC cfg.P i_laws_heldStringS [.s (.v (.sl .str) c4o0), .s (.v (.int .i64) (1 : Int))] (.s (.v (.int .i64) c5)) [])
    (h8 : ¬ (c5 < (0 : Int)))
    (h9 : c5 ≠ c4) :
    SC cfg.P i_laws_FnExactCaretKinds [.s (.v .str a0)] (.s (.v .bool false)) [] :=
  SC_of_run cfgOK (its := [.bool false, .res (.tup [.own t_string .str c1a, .v .bool c1b]) [] [] [16], .res (.tup [.own t_string .str c2a, .v .bool c2b]) [] [] [21], .res (.s (.v .bool true)) [] [] [], .bool false, .res (.s (.v (.int .i64) c4)) [.row t_string .str c4o0] [0] [], .res (.s (.v (.int .i64) c5)) [] [] [], .bool false, .bool true])
    (ps := [decide (((a0).size : Int) > (1048576 : Int)) = false,
      SC cfg.P i_spec_CaretKinds [.s (.v .str a0)] (.tup [.own t_string .str c1a, .v .bool c1b]) [],
      SC cfg.P i_impl_CaretKinds [.s (.v .str a0)] (.tup [.own t_string .str c2a, .v .bool c2b]) [],
      SC cfg.P i_laws_eqStringS [.s (.v (.sl .str) c2a), .s (.v (.sl .str) c1a)] (.s (.v .bool true)) [],
      (!(c2b == c1b)) = false,
      SC cfg.P i_laws_markStringS [.s (.msl t_string .str c2a), .s (.v (.int .i64) (1 : Int))] (.s (.v (.int .i64) c4)) [.row t_string .str c4o0],
      SC cfg.P i_laws_heldStringS [.s (.v (.sl .str) c4o0), .s (.v (.int .i64) (1 : Int))] (.s (.v (.int .i64) c5)) [],
      decide (c5 < (0 : Int)) = false,
      (c5 != c4) = true]) (by kernel_rfl) ⟨(decide_eq_false h1), h2, h3, h4, h5, h6, h7, (decide_eq_false h8), (bne_t h9), trivial⟩ get_laws_FnExactCaretKinds (by decide)

theorem laws_FnExactCaretKinds_p5 (a0 : ByteArray) (c1a : (List ByteArray)) (c1b : Bool) (c2a : (List ByteArray)) (c2b : Bool) (c4 : Int) (c4o0 : (List ByteArray)) (c5 : Int) (c6a : (List ByteArray)) (c6b : Bool)
    (h1 : ¬ (((a0).size : Int) > (1048576 : Int)))
    (h2 : SC cfg.P i_spec_CaretKinds [.s (.v .str a0)] (.tup [.own t_string .str c1a, .v .bool c1b]) [])
    (h3 : SC cfg.P i_impl_CaretKinds [.s (.v .str a0)] (.tup [.own t_string .str c2a, .v .bool c2b]) [])
    (h4 : SC cfg.P i_laws_eqStringS [.s (.v (.sl .str) c2a), .s (.v (.sl .str) c1a)] (.s (.v .bool true)) [])
    (h5 : (!(c2b == c1b)) = false)
    (h6 : SC cfg.P i_laws_markStringS [.s (.msl t_string .str c2a), .s (.v (.int .i64) (1 : Int))] (.s (.v (.int .i64) c4)) [.row t_string .str c4o0])
    (h7 : SC cfg.P i_laws_heldStringS [.s (.v (.sl .str) c4o0), .s (.v (.int .i64) (1 : Int))] (.s (.v (.int .i64) c5)) [])
    (h8 : ¬ (c5 < (0 : Int)))
    (h9 : c5 = c4)
    (h10 : SC cfg.P i_impl_CaretKinds [.s (.v .str a0)] (.tup [.own t_string .str c6a, .v .bool c6b]) [])
    (h11 : SC cfg.P i_laws_eqStringS [.s (.v (.sl .str) c6a), .s (.v (.sl .str) c1a)] (.s (.v .bool true)) [])
    (h12 : (!(c6b == c1b)) = true) :
    SC cfg.P i_laws_FnExactCaretKinds [.s (.v .str a0)] (.s (.v .bool false)) [] :=
  SC_of_run cfgOK (its := [.bool false, .res (.tup [.own t_string .str c1a, .v .bool c1b]) [] [] [16], .res (.tup [.own t_string .str c2a, .v .bool c2b]) [] [] [21], .res (.s (.v .bool true)) [] [] [], .bool false, .res (.s (.v (.int .i64) c4)) [.row t_string .str c4o0] [0] [], .res (.s (.v (.int .i64) c5)) [] [] [], .bool false, .bool false, .res (.tup [.own t_string .str c6a, .v .bool c6b]) [] [] [46], .res (.s (.v .bool true)) [] [] [], .bool true])
    (ps := [decide (((a0).size : Int) > (1048576 : Int)) = false,
      SC cfg.P i_spec_CaretKinds [.s (.v .str a0)] (.tup [.own t_string .str c1a, .v .bool c1b]) [],
      SC cfg.P i_impl_CaretKinds [.s (.v .str a0)] (.tup [.own t_string .str c2a, .v .bool c2b]) [],
      SC cfg.P i_laws_eqStringS [.s (.v (.sl .str) c2a), .s (.v (.sl .str) c1a)] (.s (.v .bool true)) [],
      (!(c2b == c1b)) = false,
      SC cfg.P i_laws_markStringS [.s (.msl t_string .str c2a), .s (.v (.int .i64) (1 : Int))] (.s (.v (.int .i64) c4)) [.row t_string .str c4o0],
      SC cfg.P i_laws_heldStringS [.s (.v (.sl .str) c4o0), .s (.v (.int .i64) (1 : Int))] (.s (.v (.int .i64) c5)) [],
      decide (c5 < (0 : Int)) = false,
      (c5 != c4) = false,
      SC cfg.P i_impl_CaretKinds [.s (.v .str a0)] (.tup [.own t_string .str c6a, .v .bool c6b]) [],
      SC cfg.P i_laws_eqStringS [.s (.v (.sl .str) c6a), .s (.v (.sl .str) c1a)] (.s (.v .bool true)) [],
      (!(c6b == c1b)) = true]) (by kernel_rfl) ⟨(decide_eq_false h1), h2, h3, h4, h5, h6, h7, (decide_eq_false h8), (bne_f h9), h10, h11, h12, trivial⟩ get_laws_FnExactCaretKinds (by decide)

theorem laws_FnExactCaretKinds_p6 (a0 : ByteArray) (c1a : (List ByteArray)) (c1b : Bool) (c2a : (List ByteArray)) (c2b : Bool) (c4 : Int) (c4o0 : (List ByteArray)) (c5 : Int) (c6a : (List ByteArray)) (c6b : Bool) (c8 : Int)
    (h1 : ¬ (((a0).size : Int) > (1048576 : Int)))
    (h2 : SC cfg.P i_spec_CaretKinds [.s (.v .str a0)] (.tup [.own t_string .str c1a, .v .bool c1b]) [])
    (h3 : SC cfg.P i_impl_CaretKinds [.s (.v .str a0)] (.tup [.own t_string .str c2a, .v .bool c2b]) [])
    (h4 : SC cfg.P i_laws_eqStringS [.s (.v (.sl .str) c2a), .s (.v (.sl .str) c1a)] (.s (.v .bool true)) [])
    (h5 : (!(c2b == c1b)) = false)
    (h6 : SC cfg.P i_laws_markStringS [.s (.msl t_string .str c2a), .s (.v (.int .i64) (1 : Int))] (.s (.v (.int .i64) c4)) [.row t_string .str c4o0])
    (h7 : SC cfg.P i_laws_heldStringS [.s (.v (.sl .str) c4o0), .s (.v (.int .i64) (1 : Int))] (.s (.v (.int .i64) c5)) [])
    (h8 : ¬ (c5 < (0 : Int)))
    (h9 : c5 = c4)
    (h10 : SC cfg.P i_impl_CaretKinds [.s (.v .str a0)] (.tup [.own t_string .str c6a, .v .bool c6b]) [])
    (h11 : SC cfg.P i_laws_eqStringS [.s (.v (.sl .str) c6a), .s (.v (.sl .str) c1a)] (.s (.v .bool true)) [])
    (h12 : (!(c6b == c1b)) = false)
    (h13 : SC cfg.P i_laws_heldStringS [.s (.v (.sl .str) c4o0), .s (.v (.int .i64) (1 : Int))] (.s (.v (.int .i64) c8)) [])
    (h14 : c8 < (0 : Int)) :
    SC cfg.P i_laws_FnExactCaretKinds [.s (.v .str a0)] (.s (.v .bool false)) [] :=
  SC_of_run cfgOK (its := [.bool false, .res (.tup [.own t_string .str c1a, .v .bool c1b]) [] [] [16], .res (.tup [.own t_string .str c2a, .v .bool c2b]) [] [] [21], .res (.s (.v .bool true)) [] [] [], .bool false, .res (.s (.v (.int .i64) c4)) [.row t_string .str c4o0] [0] [], .res (.s (.v (.int .i64) c5)) [] [] [], .bool false, .bool false, .res (.tup [.own t_string .str c6a, .v .bool c6b]) [] [] [46], .res (.s (.v .bool true)) [] [] [], .bool false, .res (.s (.v (.int .i64) c8)) [] [] [], .bool true])
    (ps := [decide (((a0).size : Int) > (1048576 : Int)) = false,
      SC cfg.P i_spec_CaretKinds [.s (.v .str a0)] (.tup [.own t_string .str c1a, .v .bool c1b]) [],
      SC cfg.P i_impl_CaretKinds [.s (.v .str a0)] (.tup [.own t_string .str c2a, .v .bool c2b]) [],
      SC cfg.P i_laws_eqStringS [.s (.v (.sl .str) c2a), .s (.v (.sl .str) c1a)] (.s (.v .bool true)) [],
      (!(c2b == c1b)) = false,
      SC cfg.P i_laws_markStringS [.s (.msl t_string .str c2a), .s (.v (.int .i64) (1 : Int))] (.s (.v (.int .i64) c4)) [.row t_string .str c4o0],
      SC cfg.P i_laws_heldStringS [.s (.v (.sl .str) c4o0), .s (.v (.int .i64) (1 : Int))] (.s (.v (.int .i64) c5)) [],
      decide (c5 < (0 : Int)) = false,
      (c5 != c4) = false,
      SC cfg.P i_impl_CaretKinds [.s (.v .str a0)] (.tup [.own t_string .str c6a, .v .bool c6b]) [],
      SC cfg.P i_laws_eqStringS [.s (.v (.sl .str) c6a), .s (.v (.sl .str) c1a)] (.s (.v .bool true)) [],
      (!(c6b == c1b)) = false,
      SC cfg.P i_laws_heldStringS [.s (.v (.sl .str) c4o0), .s (.v (.int .i64) (1 : Int))] (.s (.v (.int .i64) c8)) [],
      decide (c8 < (0 : Int)) = true]) (by kernel_rfl) ⟨(decide_eq_false h1), h2, h3, h4, h5, h6, h7, (decide_eq_false h8), (bne_f h9), h10, h11, h12, h13, (decide_eq_true h14), trivial⟩ get_laws_FnExactCaretKinds (by decide)

theorem laws_FnExactCaretKinds_p7 (a0 : ByteArray) (c1a : (List ByteArray)) (c1b : Bool) (c2a : (List ByteArray)) (c2b : Bool) (c4 : Int) (c4o0 : (List ByteArray)) (c5 : Int) (c6a : (List ByteArray)) (c6b : Bool) (c8 : Int)
    (h1 : ¬ (((a0).size : Int) > (1048576 : Int)))
    (h2 : SC cfg.P i_spec_CaretKinds [.s (.v .str a0)] (.tup [.own t_string .str c1a, .v .bool c1b]) [])
    (h3 : SC cfg.P i_impl_CaretKinds [.s (.v .str a0)] (.tup [.own t_string .str c2a, .v .bool c2b]) [])
    (h4 : SC cfg.P i_laws_eqStringS [.s (.v (.sl .str) c2a), .s (.v (.sl .str) c1a)] (.s (.v .bool true)) [])
    (h5 : (!(c2b == c1b)) = false)
    (h6 : SC cfg.P i_laws_markStringS [.s (.msl t_string .str c2a), .s (.v (.int .i64) (1 : Int))] (.s (.v (.int .i64) c4)) [.row t_string .str c4o0])
    (h7 : SC cfg.P i_laws_heldStringS [.s (.v (.sl .str) c4o0), .s (.v (.int .i64) (1 : Int))] (.s (.v (.int .i64) c5)) [])
    (h8 : ¬ (c5 < (0 : Int)))
    (h9 : c5 = c4)
    (h10 : SC cfg.P i_impl_CaretKinds [.s (.v .str a0)] (.tup [.own t_string .str c6a, .v .bool c6b]) [])
    (h11 : SC cfg.P i_laws_eqStringS [.s (.v (.sl .str) c6a), .s (.v (.sl .str) c1a)] (.s (.v .bool true)) [])
    (h12 : (!(c6b == c1b)) = false)
    (h13 : SC cfg.P i_laws_heldStringS [.s (.v (.sl .str) c4o0), .s (.v (.int .i64) (1 : Int))] (.s (.v (.int .i64) c8)) [])
    (h14 : ¬ (c8 < (0 : Int)))
    (h15 : c8 ≠ c4) :
    SC cfg.P i_laws_FnExactCaretKinds [.s (.v .str a0)] (.s (.v .bool false)) [] :=
  SC_of_run cfgOK (its := [.bool false, .res (.tup [.own t_string .str c1a, .v .bool c1b]) [] [] [16], .res (.tup [.own t_string .str c2a, .v .bool c2b]) [] [] [21], .res (.s (.v .bool true)) [] [] [], .bool false, .res (.s (.v (.int .i64) c4)) [.row t_string .str c4o0] [0] [], .res (.s (.v (.int .i64) c5)) [] [] [], .bool false, .bool false, .res (.tup [.own t_string .str c6a, .v .bool c6b]) [] [] [46], .res (.s (.v .bool true)) [] [] [], .bool false, .res (.s (.v (.int .i64) c8)) [] [] [], .bool false, .bool true])
    (ps := [decide (((a0).size : Int) > (1048576 : Int)) = false,
      SC cfg.P i_spec_CaretKinds [.s (.v .str a0)] (.tup [.own t_string .str c1a, .v .bool c1b]) [],
      SC cfg.P i_impl_CaretKinds [.s (.v .str a0)] (.tup [.own t_string .str c2a, .v .bool c2b]) [],
      SC cfg.P i_laws_eqStringS [.s (.v (.sl .str) c2a), .s (.v (.sl .str) c1a)] (.s (.v .bool true)) [],
      (!(c2b == c1b)) = false,
      SC cfg.P i_laws_markStringS [.s (.msl t_string .str c2a), .s (.v (.int .i64) (1 : Int))] (.s (.v (.int .i64) c4)) [.row t_string .str c4o0],
      SC cfg.P i_laws_heldStringS [.s (.v (.sl .str) c4o0), .s (.v (.int .i64) (1 : Int))] (.s (.v (.int .i64) c5)) [],
      decide (c5 < (0 : Int)) = false,
      (c5 != c4) = false,
      SC cfg.P i_impl_CaretKinds [.s (.v .str a0)] (.tup [.own t_string .str c6a, .v .bool c6b]) [],
      SC cfg.P i_laws_eqStringS [.s (.v (.sl .str) c6a), .s (.v (.sl .str) c1a)] (.s (.v .bool true)) [],
      (!(c6b == c1b)) = false,
      SC cfg.P i_laws_heldStringS [.s (.v (.sl .str) c4o0), .s (.v (.int .i64) (1 : Int))] (.s (.v (.int .i64) c8)) [],
      decide (c8 < (0 : Int)) = false,
      (c8 != c4) = true]) (by kernel_rfl) ⟨(decide_eq_false h1), h2, h3, h4, h5, h6, h7, (decide_eq_false h8), (bne_f h9), h10, h11, h12, h13, (decide_eq_false h14), (bne_t h15), trivial⟩ get_laws_FnExactCaretKinds (by decide)

theorem laws_FnExactCaretKinds_p8 (a0 : ByteArray) (c1a : (List ByteArray)) (c1b : Bool) (c2a : (List ByteArray)) (c2b : Bool) (c4 : Int) (c4o0 : (List ByteArray)) (c5 : Int) (c6a : (List ByteArray)) (c6b : Bool) (c8 : Int)
    (h1 : ¬ (((a0).size : Int) > (1048576 : Int)))
    (h2 : SC cfg.P i_spec_CaretKinds [.s (.v .str a0)] (.tup [.own t_string .str c1a, .v .bool c1b]) [])
    (h3 : SC cfg.P i_impl_CaretKinds [.s (.v .str a0)] (.tup [.own t_string .str c2a, .v .bool c2b]) [])
    (h4 : SC cfg.P i_laws_eqStringS [.s (.v (.sl .str) c2a), .s (.v (.sl .str) c1a)] (.s (.v .bool true)) [])
    (h5 : (!(c2b == c1b)) = false)
    (h6 : SC cfg.P i_laws_markStringS [.s (.msl t_string .str c2a), .s (.v (.int .i64) (1 : Int))] (.s (.v (.int .i64) c4)) [.row t_string .str c4o0])
    (h7 : SC cfg.P i_laws_heldStringS [.s (.v (.sl .str) c4o0), .s (.v (.int .i64) (1 : Int))] (.s (.v (.int .i64) c5)) [])
    (h8 : ¬ (c5 < (0 : Int)))
    (h9 : c5 = c4)
    (h10 : SC cfg.P i_impl_CaretKinds [.s (.v .str a0)] (.tup [.own t_string .str c6a, .v .bool c6b]) [])
    (h11 : SC cfg.P i_laws_eqStringS [.s (.v (.sl .str) c6a), .s (.v (.sl .str) c1a)] (.s (.v .bool true)) [])
    (h12 : (!(c6b == c1b)) = false)
    (h13 : SC cfg.P i_laws_heldStringS [.s (.v (.sl .str) c4o0), .s (.v (.int .i64) (1 : Int))] (.s (.v (.int .i64) c8)) [])
    (h14 : ¬ (c8 < (0 : Int)))
    (h15 : c8 = c4) :
    SC cfg.P i_laws_FnExactCaretKinds [.s (.v .str a0)] (.s (.v .bool true)) [] :=
  SC_of_run cfgOK (its := [.bool false, .res (.tup [.own t_string .str c1a, .v .bool c1b]) [] [] [16], .res (.tup [.own t_string .str c2a, .v .bool c2b]) [] [] [21], .res (.s (.v .bool true)) [] [] [], .bool false, .res (.s (.v (.int .i64) c4)) [.row t_string .str c4o0] [0] [], .res (.s (.v (.int .i64) c5)) [] [] [], .bool false, .bool false, .res (.tup [.own t_string .str c6a, .v .bool c6b]) [] [] [46], .res (.s (.v .bool true)) [] [] [], .bool false, .res (.s (.v (.int .i64) c8)) [] [] [], .bool false, .bool false])
    (ps := [decide (((a0).size : Int) > (1048576 : Int)) = false,
      SC cfg.P i_spec_CaretKinds [.s (.v .str a0)] (.tup [.own t_string .str c1a, .v .bool c1b]) [],
      SC cfg.P i_impl_CaretKinds [.s (.v .str a0)] (.tup [.own t_string .str c2a, .v .bool c2b]) [],
      SC cfg.P i_laws_eqStringS [.s (.v (.sl .str) c2a), .s (.v (.sl .str) c1a)] (.s (.v .bool true)) [],
      (!(c2b == c1b)) = false,
      SC cfg.P i_laws_markStringS [.s (.msl t_string .str c2a), .s (.v (.int .i64) (1 : Int))] (.s (.v (.int .i64) c4)) [.row t_string .str c4o0],
      SC cfg.P i_laws_heldStringS [.s (.v (.sl .str) c4o0), .s (.v (.int .i64) (1 : Int))] (.s (.v (.int .i64) c5)) [],
      decide (c5 < (0 : Int)) = false,
      (c5 != c4) = false,
      SC cfg.P i_impl_CaretKinds [.s (.v .str a0)] (.tup [.own t_string .str c6a, .v .bool c6b]) [],
      SC cfg.P i_laws_eqStringS [.s (.v (.sl .str) c6a), .s (.v (.sl .str) c1a)] (.s (.v .bool true)) [],
      (!(c6b == c1b)) = false,
      SC cfg.P i_laws_heldStringS [.s (.v (.sl .str) c4o0), .s (.v (.int .i64) (1 : Int))] (.s (.v (.int .i64) c8)) [],
      decide (c8 < (0 : Int)) = false,
      (c8 != c4) = false]) (by kernel_rfl) ⟨(decide_eq_false h1), h2, h3, h4, h5, h6, h7, (decide_eq_false h8), (bne_f h9), h10, h11, h12, h13, (decide_eq_false h14), (bne_f h15), trivial⟩ get_laws_FnExactCaretKinds (by decide)

theorem laws_FnExactCaretKinds_p9 (a0 : ByteArray) (c1a : (List ByteArray)) (c1b : Bool) (c2a : (List ByteArray)) (c2b : Bool) (c4 : Int) (c4o0 : (List ByteArray)) (c5 : Int) (c6a : (List ByteArray)) (c6b : Bool)
    (h1 : ¬ (((a0).size : Int) > (1048576 : Int)))
    (h2 : SC cfg.P i_spec_CaretKinds [.s (.v .str a0)] (.tup [.own t_string .str c1a, .v .bool c1b]) [])
    (h3 : SC cfg.P i_impl_CaretKinds [.s (.v .str a0)] (.tup [.own t_string .str c2a, .v .bool c2b]) [])
    (h4 : SC cfg.P i_laws_eqStringS [.s (.v (.sl .str) c2a), .s (.v (.sl .str) c1a)] (.s (.v .bool true)) [])
    (h5 : (!(c2b == c1b)) = false)
    (h6 : SC cfg.P i_laws_markStringS [.s (.msl t_string .str c2a), .s (.v (.int .i64) (1 : Int))] (.s (.v (.int .i64) c4)) [.row t_string .str c4o0])
    (h7 : SC cfg.P i_laws_heldStringS [.s (.v (.sl .str) c4o0), .s (.v (.int .i64) (1 : Int))] (.s (.v (.int .i64) c5)) [])
    (h8 : ¬ (c5 < (0 : Int)))
    (h9 : c5 = c4)
    (h10 : SC cfg.P i_impl_CaretKinds [.s (.v .str a0)] (.tup [.own t_string .str c6a, .v .bool c6b]) [])
    (h11 : SC cfg.P i_laws_eqStringS [.s (.v (.sl .str) c6a), .s (.v (.sl .str) c1a)] (.s (.v .bool false)) []) :
    SC cfg.P i_laws_FnExactCaretKinds [.s (.v .str a0)] (.s (.v .bool false)) [] :=
  SC_of_run cfgOK (its := [.bool false, .res (.tup [.own t_string .str c1a, .v .bool c1b]) [] [] [16], .res (.tup [.own t_string .str c2a, .v .bool c2b]) [] [] [21], .res (.s (.v .bool true)) [] [] [], .bool false, .res (.s (.v (.int .i64) c4)) [.row t_string .str c4o0] [0] [], .res (.s (.v (.int .i64) c5)) [] [] [], .bool false, .bool false, .res (.tup [.own t_string .str c6a, .v .bool c6b]) [] [] [46], .res (.s (.v .bool false)) [] [] []])
    (ps := [decide (((a0).size : Int) > (1048576 : Int)) = false,
      SC cfg.P i_spec_CaretKinds [.s (.v .str a0)] (.tup [.own t_string .str c1a, .v .bool c1b]) [],
      SC cfg.P i_impl_CaretKinds [.s (.v .str a0)] (.tup [.own t_string .str c2a, .v .bool c2b]) [],
      SC cfg.P i_laws_eqStringS [.s (.v (.sl .str) c2a), .s (.v (.sl .str) c1a)] (.s (.v .bool true)) [],
      (!(c2b == c1b)) = false,
      SC cfg.P i_laws_markStringS [.s (.msl t_string .str c2a), .s (.v (.int .i64) (1 : Int))] (.s (.v (.int .i64) c4)) [.row t_string .str c4o0],
      SC cfg.P i_laws_heldStringS [.s (.v (.sl .str) c4o0), .s (.v (.int .i64) (1 : Int))] (.s (.v (.int .i64) c5)) [],
      decide (c5 < (0 : Int)) = false,
      (c5 != c4) = false,
      SC cfg.P i_impl_CaretKinds [.s (.v .str a0)] (.tup [.own t_string .str c6a, .v .bool c6b]) [],
      SC cfg.P i_laws_eqStringS [.s (.v (.sl .str) c6a), .s (.v (.sl .str) c1a)] (.s (.v .bool false)) []]) (by kernel_rfl) ⟨(decide_eq_false h1), h2, h3, h4, h5, h6, h7, (decide_eq_false h8), (bne_f h9), h10, h11, trivial⟩ get_laws_FnExactCaretKinds (by decide)

theorem laws_FnExactCaretKinds_p10 (a0 : ByteArray) (c1a : (List ByteArray)) (c1b : Bool) (c2a : (List ByteArray)) (c2b : Bool)
    (h1 : ¬ (((a0).size : Int) > (1048576 : Int)))
    (h2 : SC cfg.P i_spec_CaretKinds [.s (.v .str a0)] (.tup [.own t_string .str c1a, .v .bool c1b]) [])
    (h3 : SC cfg.P i_impl_CaretKinds [.s (.v .str a0)] (.tup [.own t_string .str c2a, .v .bool c2b]) [])
    (h4 : SC cfg.P i_laws_eqStringS [.s (.v (.sl .str) c2a), .s (.v (.sl .str) c1a)] (.s (.v .bool false)) []) :
    SC cfg.P i_laws_FnExactCaretKinds [.s (.v .str a0)] (.s (.v .bool false)) [] :=
  SC_of_run cfgOK (its := [.bool false, .res (.tup [.own t_string .str c1a, .v .bool c1b]) [] [] [16], .res (.tup [.own t_string .str c2a, .v .bool c2b]) [] [] [21], .res (.s (.v .bool false)) [] [] []])
    (ps := [decide (((a0).size : Int) > (1048576 : Int)) = false,
      SC cfg.P i_spec_CaretKinds [.s (.v .str a0)] (.tup [.own t_string .str c1a, .v .bool c1b]) [],
      SC cfg.P i_impl_CaretKinds [.s (.v .str a0)] (.tup [.own t_string .str c2a, .v .bool c2b]) [],
      SC cfg.P i_laws_eqStringS [.s (.v (.sl .str) c2a), .s (.v (.sl .str) c1a)] (.s (.v .bool false)) []]) (by kernel_rfl) ⟨(decide_eq_false h1), h2, h3, h4, trivial⟩ get_laws_FnExactCaretKinds (by decide)

/-! ### spec_CaretKinds -/


theorem spec_CaretKinds_p1 (a0 : ByteArray) (c2 : (List ByteArray))
    (h1 : SC cfg.P i_spec_trIs [.s (.v .str a0)] (.s (.v .bool true)) [])
    (h2 : SC cfg.P i_spec_lnKinds [.s (.v .str a0)] (.s (.own t_string .str c2)) []) :
    SC cfg.P i_spec_CaretKinds [.s (.v .str a0)] (.tup [.own t_string .str c2, .v .bool true]) [] :=
  SC_of_run cfgOK (its := [.res (.s (.v .bool true)) [] [] [], .res (.s (.own t_string .str c2)) [] [] [8]])
    (ps := [SC cfg.P i_spec_trIs [.s (.v .str a0)] (.s (.v .bool true)) [],
      SC cfg.P i_spec_lnKinds [.s (.v .str a0)] (.s (.own t_string .str c2)) []]) (by kernel_rfl) ⟨h1, h2, trivial⟩ get_spec_CaretKinds (by decide)

theorem spec_CaretKinds_p2 (a0 : ByteArray)
    (h1 : SC cfg.P i_spec_trIs [.s (.v .str a0)] (.s (.v .bool false)) []) :
    SC cfg.P i_spec_CaretKinds [.s (.v .str a0)] (.tup [.own t_string .str ([] : List ByteArray), .v .bool false]) [] :=
  SC_of_run cfgOK (its := [.res (.s (.v .bool false)) [] [] []])
    (ps := [SC cfg.P i_spec_trIs [.s (.v .str a0)] (.s (.v .bool false)) []]) (by kernel_rfl) ⟨h1, trivial⟩ get_spec_CaretKinds (by decide)

/-! ### impl_CaretKinds -/


theorem impl_CaretKinds_p1 (a0 : ByteArray) (c1a : Tr) (c2 : (List ByteArray))
    (h1 : SC cfg.P i_impl_parse [.s (.v .str a0)] (.tup [.v .tree c1a, .v .bool true]) [])
    (h2 : SC cfg.P i_impl_node_kinds [.s (.v .tree c1a)] (.s (.own t_string .str c2)) []) :
    SC cfg.P i_impl_CaretKinds [.s (.v .str a0)] (.tup [.own t_string .str c2, .v .bool true]) [] :=
  SC_of_run cfgOK (its := [.res (.tup [.v .tree c1a, .v .bool true]) [] [] [], .res (.s (.own t_string .str c2)) [] [] [14]])
    (ps := [SC cfg.P i_impl_parse [.s (.v .str a0)] (.tup [.v .tree c1a, .v .bool true]) [],
      SC cfg.P i_impl_node_kinds [.s (.v .tree c1a)] (.s (.own t_string .str c2)) []]) (by kernel_rfl) ⟨h1, h2, trivial⟩ get_impl_CaretKinds (by decide)

theorem impl_CaretKinds_p2 (a0 : ByteArray) (c1a : Tr)
    (h1 : SC cfg.P i_impl_parse [.s (.v .str a0)] (.tup [.v .tree c1a, .v .bool false]) []) :
    SC cfg.P i_impl_CaretKinds [.s (.v .str a0)] (.tup [.own t_string .str ([] : List ByteArray), .v .bool false]) [] :=
  SC_of_run cfgOK (its := [.res (.tup [.v .tree c1a, .v .bool false]) [] [] []])
    (ps := [SC cfg.P i_impl_parse [.s (.v .str a0)] (.tup [.v .tree c1a, .v .bool false]) []]) (by kernel_rfl) ⟨h1, trivial⟩ get_impl_CaretKinds (by decide)

/-! ### laws_eqStringS -/


def laws_eqStringS_L0a (x0 : (List ByteArray)) (x1 : (List ByteArray)) (x5 : Int) : St := mkSt 26 [(0, .s (.v (.sl .str) x0)), (1, .s (.v (.sl .str) x1)), (5, .s (.v (.int .i64) x5))] []

def laws_eqStringS_L0X1 (y4 : Bool) : St := mkSt 26 [(4, .s (.v .bool y4))] []

def laws_eqStringS_L0X2 (y0 : (List ByteArray)) (y1 : (List ByteArray)) (y5 : Int) (y14 : Bool) : St := mkSt 26 [(0, .s (.v (.sl .str) y0)), (1, .s (.v (.sl .str) y1)), (5, .s (.v (.int .i64) y5)), (14, .s (.v .bool y14))] []

theorem laws_eqStringS_L0a_x1 (x0 : (List ByteArray)) (x1 : (List ByteArray)) (x5 : Int)
    (h1 : x5 < ((List.length x0 : Nat) : Int))
    (h2 : 0 ≤ x5)
    (h3 : x5 < (List.length x0 : Int))
    (h4 : x5 < (List.length x1 : Int))
    (h5 : (List.getD x0 (x5).toNat (⟨#[]⟩ : ByteArray)) ≠ (List.getD x1 (x5).toNat (⟨#[]⟩ : ByteArray))) :
    LoopSC cfg.P 2 (lb P_laws_eqStringS 0) (laws_eqStringS_L0a x0 x1 x5) (.ret) (laws_eqStringS_L0X1 false) :=
  loop_out cfgOK (f := i_laws_eqStringS) (its := [.bool true, .bool true])
    (ps := [decide (x5 < ((List.length x0 : Nat) : Int)) = true,
      0 ≤ x5,
      x5 < (List.length x0 : Int),
      0 ≤ x5,
      x5 < (List.length x1 : Int),
      (!(((List.getD x0 (x5).toNat (⟨#[]⟩ : ByteArray))).toList == ((List.getD x1 (x5).toNat (⟨#[]⟩ : ByteArray))).toList)) = true]) (by kernel_rfl) ⟨(decide_eq_true h1), h2, h3, h2, h4, (nseq_t h5), trivial⟩ (fun h => by cases h)

theorem laws_eqStringS_L0a_i2 (x0 : (List ByteArray)) (x1 : (List ByteArray)) (x5 : Int)
    (h1 : x5 < ((List.length x0 : Nat) : Int))
    (h2 : 0 ≤ x5)
    (h3 : x5 < (List.length x0 : Int))
    (h4 : x5 < (List.length x1 : Int))
    (h5 : (List.getD x0 (x5).toNat (⟨#[]⟩ : ByteArray)) = (List.getD x1 (x5).toNat (⟨#[]⟩ : ByteArray)))
    {e : AEx} {st : St} (next : LoopSC cfg.P 2 (lb P_laws_eqStringS 0) (laws_eqStringS_L0a x0 x1 (IntKind.wrap .i64 (x5 + (1 : Int)))) e st) :
    LoopSC cfg.P 2 (lb P_laws_eqStringS 0) (laws_eqStringS_L0a x0 x1 x5) e st :=
  loop_iter cfgOK (f := i_laws_eqStringS) (its := [.bool true, .bool false])
    (ps := [decide (x5 < ((List.length x0 : Nat) : Int)) = true,
      0 ≤ x5,
      x5 < (List.length x0 : Int),
      0 ≤ x5,
      x5 < (List.length x1 : Int),
      (!(((List.getD x0 (x5).toNat (⟨#[]⟩ : ByteArray))).toList == ((List.getD x1 (x5).toNat (⟨#[]⟩ : ByteArray))).toList)) = false]) (st1 := laws_eqStringS_L0a x0 x1 (IntKind.wrap .i64 (x5 + (1 : Int)))) (by kernel_rfl) ⟨(decide_eq_true h1), h2, h3, h2, h4, (nseq_f h5), trivial⟩ next

theorem laws_eqStringS_L0a_x3 (x0 : (List ByteArray)) (x1 : (List ByteArray)) (x5 : Int)
    (h1 : ¬ (x5 < ((List.length x0 : Nat) : Int))) :
    LoopSC cfg.P 2 (lb P_laws_eqStringS 0) (laws_eqStringS_L0a x0 x1 x5) (.exit 0) (laws_eqStringS_L0X2 x0 x1 x5 false) :=
  loop_out cfgOK (f := i_laws_eqStringS) (its := [.bool false])
    (ps := [decide (x5 < ((List.length x0 : Nat) : Int)) = false]) (by kernel_rfl) ⟨(decide_eq_false h1), trivial⟩ (fun h => by cases h)

theorem laws_eqStringS_p1 (a0 : (List ByteArray)) (a1 : (List ByteArray))
    (h1 : ((List.length a0 : Nat) : Int) ≠ ((List.length a1 : Nat) : Int)) :
    SC cfg.P i_laws_eqStringS [.s (.v (.sl .str) a0), .s (.v (.sl .str) a1)] (.s (.v .bool false)) [] :=
  SC_of_run cfgOK (its := [.bool true])
    (ps := [(((List.length a0 : Nat) : Int) != ((List.length a1 : Nat) : Int)) = true]) (by kernel_rfl) ⟨(bne_t h1), trivial⟩ get_laws_eqStringS (by decide)

theorem laws_eqStringS_p2 (a0 : (List ByteArray)) (a1 : (List ByteArray)) (k1y4 : Bool)
    (h1 : ((List.length a0 : Nat) : Int) = ((List.length a1 : Nat) : Int))
    (h2 : LoopSC cfg.P 2 (lb P_laws_eqStringS 0) (laws_eqStringS_L0a a0 a1 (0 : Int)) (.ret) (laws_eqStringS_L0X1 k1y4)) :
    SC cfg.P i_laws_eqStringS [.s (.v (.sl .str) a0), .s (.v (.sl .str) a1)] (.s (.v .bool k1y4)) [] :=
  SC_of_run cfgOK (its := [.bool false, .loop (fun _ => (.ret, laws_eqStringS_L0X1 k1y4))])
    (ps := [(((List.length a0 : Nat) : Int) != ((List.length a1 : Nat) : Int)) = false,
      LoopSC cfg.P 2 (lb P_laws_eqStringS 0) (laws_eqStringS_L0a a0 a1 (0 : Int)) (.ret) (laws_eqStringS_L0X1 k1y4)]) (by kernel_rfl) ⟨(bne_f h1), h2, trivial⟩ get_laws_eqStringS (by decide)

theorem laws_eqStringS_p3 (a0 : (List ByteArray)) (a1 : (List ByteArray)) (k1y0 : (List ByteArray)) (k1y1 : (List ByteArray)) (k1y5 : Int) (k1y14 : Bool)
    (h1 : ((List.length a0 : Nat) : Int) = ((List.length a1 : Nat) : Int))
    (h2 : LoopSC cfg.P 2 (lb P_laws_eqStringS 0) (laws_eqStringS_L0a a0 a1 (0 : Int)) (.exit 0) (laws_eqStringS_L0X2 k1y0 k1y1 k1y5 k1y14)) :
    SC cfg.P i_laws_eqStringS [.s (.v (.sl .str) a0), .s (.v (.sl .str) a1)] (.s (.v .bool true)) [] :=
  SC_of_run cfgOK (its := [.bool false, .loop (fun _ => (.exit 0, laws_eqStringS_L0X2 k1y0 k1y1 k1y5 k1y14))])
    (ps := [(((List.length a0 : Nat) : Int) != ((List.length a1 : Nat) : Int)) = false,
      LoopSC cfg.P 2 (lb P_laws_eqStringS 0) (laws_eqStringS_L0a a0 a1 (0 : Int)) (.exit 0) (laws_eqStringS_L0X2 k1y0 k1y1 k1y5 k1y14)]) (by kernel_rfl) ⟨(bne_f h1), h2, trivial⟩ get_laws_eqStringS (by decide)

/-! ### laws_markStringS -/


def laws_markStringS_L0a (x1 : Int) (x5 : Int) (xo0 : (List ByteArray)) : St := mkSt 20 [(0, .s (.osl 0 0)), (1, .s (.v (.int .i64) x1)), (5, .s (.v (.int .i64) x5))] [(0, .row t_string .str xo0 0 false)]

def laws_markStringS_L0X1 (y1 : Int) (y5 : Int) (y9 : Bool) (yo0 : (List ByteArray)) : St := mkSt 20 [(0, .s (.osl 0 0)), (1, .s (.v (.int .i64) y1)), (5, .s (.v (.int .i64) y5)), (9, .s (.v .bool y9))] [(0, .row t_string .str yo0 0 false)]

theorem laws_markStringS_L0a_i1 (x1 : Int) (x5 : Int) (xo0 : (List ByteArray)) (dc1 : ByteArray)
    (h1 : x5 < ((List.length xo0 : Nat) : Int))
    (h2 : SC cfg.P i_laws_markText [.s (.v (.int .i64) x1)] (.s (.v .str dc1)) [])
    (h3 : 0 ≤ x5)
    (h4 : x5 < (List.length xo0 : Int))
    (h5 : (x5).toNat < List.length xo0)
    {e : AEx} {st : St} (next : LoopSC cfg.P 2 (lb P_laws_markStringS 0) (laws_markStringS_L0a (IntKind.wrap .i64 (x1 + (1 : Int))) (IntKind.wrap .i64 (x5 + (1 : Int))) (List.set xo0 (x5).toNat dc1)) e st) :
    LoopSC cfg.P 2 (lb P_laws_markStringS 0) (laws_markStringS_L0a x1 x5 xo0) e st :=
  loop_iter cfgOK (f := i_laws_markStringS) (its := [.bool true, .res (.s (.v .str dc1)) [] [] []])
    (ps := [decide (x5 < ((List.length xo0 : Nat) : Int)) = true,
      SC cfg.P i_laws_markText [.s (.v (.int .i64) x1)] (.s (.v .str dc1)) [],
      0 ≤ x5,
      x5 < (List.length xo0 : Int),
      (x5).toNat < List.length xo0]) (st1 := laws_markStringS_L0a (IntKind.wrap .i64 (x1 + (1 : Int))) (IntKind.wrap .i64 (x5 + (1 : Int))) (List.set xo0 (x5).toNat dc1)) (by kernel_rfl) ⟨(decide_eq_true h1), h2, h3, h4, h5, trivial⟩ next

theorem laws_markStringS_L0a_x2 (x1 : Int) (x5 : Int) (xo0 : (List ByteArray))
    (h1 : ¬ (x5 < ((List.length xo0 : Nat) : Int))) :
    LoopSC cfg.P 2 (lb P_laws_markStringS 0) (laws_markStringS_L0a x1 x5 xo0) (.exit 0) (laws_markStringS_L0X1 x1 x5 false xo0) :=
  loop_out cfgOK (f := i_laws_markStringS) (its := [.bool false])
    (ps := [decide (x5 < ((List.length xo0 : Nat) : Int)) = false]) (by kernel_rfl) ⟨(decide_eq_false h1), trivial⟩ (fun h => by cases h)

theorem laws_markStringS_p1 (a0 : (List ByteArray)) (a1 : Int) (k1y1 : Int) (k1y5 : Int) (k1y9 : Bool) (k1yo0 : (List ByteArray))
    (h1 : LoopSC cfg.P 2 (lb P_laws_markStringS 0) (laws_markStringS_L0a a1 (0 : Int) a0) (.exit 0) (laws_markStringS_L0X1 k1y1 k1y5 k1y9 k1yo0)) :
    SC cfg.P i_laws_markStringS [.s (.msl t_string .str a0), .s (.v (.int .i64) a1)] (.s (.v (.int .i64) k1y1)) [.row t_string .str k1yo0] :=
  SC_of_run cfgOK (its := [.loop (fun _ => (.exit 0, laws_markStringS_L0X1 k1y1 k1y5 k1y9 k1yo0))])
    (ps := [LoopSC cfg.P 2 (lb P_laws_markStringS 0) (laws_markStringS_L0a a1 (0 : Int) a0) (.exit 0) (laws_markStringS_L0X1 k1y1 k1y5 k1y9 k1yo0)]) (by kernel_rfl) ⟨h1, trivial⟩ get_laws_markStringS (by decide)

/-! ### laws_heldStringS -/


def laws_heldStringS_L0a (x0 : (List ByteArray)) (x1 : Int) (x5 : Int) : St := mkSt 22 [(0, .s (.v (.sl .str) x0)), (1, .s (.v (.int .i64) x1)), (5, .s (.v (.int .i64) x5))] []

def laws_heldStringS_L0X1 (y4 : Int) : St := mkSt 22 [(4, .s (.v (.int .i64) y4))] []

def laws_heldStringS_L0X2 (y0 : (List ByteArray)) (y1 : Int) (y5 : Int) (y9 : Bool) : St := mkSt 22 [(0, .s (.v (.sl .str) y0)), (1, .s (.v (.int .i64) y1)), (5, .s (.v (.int .i64) y5)), (9, .s (.v .bool y9))] []

theorem laws_heldStringS_L0a_x1 (x0 : (List ByteArray)) (x1 : Int) (x5 : Int) (dc1 : ByteArray)
    (h1 : x5 < ((List.length x0 : Nat) : Int))
    (h2 : 0 ≤ x5)
    (h3 : x5 < (List.length x0 : Int))
    (h4 : SC cfg.P i_laws_markText [.s (.v (.int .i64) x1)] (.s (.v .str dc1)) [])
    (h5 : (List.getD x0 (x5).toNat (⟨#[]⟩ : ByteArray)) ≠ dc1) :
    LoopSC cfg.P 2 (lb P_laws_heldStringS 0) (laws_heldStringS_L0a x0 x1 x5) (.ret) (laws_heldStringS_L0X1 (-1 : Int)) :=
  loop_out cfgOK (f := i_laws_heldStringS) (its := [.bool true, .res (.s (.v .str dc1)) [] [] [], .bool true])
    (ps := [decide (x5 < ((List.length x0 : Nat) : Int)) = true,
      0 ≤ x5,
      x5 < (List.length x0 : Int),
      SC cfg.P i_laws_markText [.s (.v (.int .i64) x1)] (.s (.v .str dc1)) [],
      (!(((List.getD x0 (x5).toNat (⟨#[]⟩ : ByteArray))).toList == (dc1).toList)) = true]) (by kernel_rfl) ⟨(decide_eq_true h1), h2, h3, h4, (nseq_t h5), trivial⟩ (fun h => by cases h)

theorem laws_heldStringS_L0a_i2 (x0 : (List ByteArray)) (x1 : Int) (x5 : Int) (dc1 : ByteArray)
    (h1 : x5 < ((List.length x0 : Nat) : Int))
    (h2 : 0 ≤ x5)
    (h3 : x5 < (List.length x0 : Int))
    (h4 : SC cfg.P i_laws_markText [.s (.v (.int .i64) x1)] (.s (.v .str dc1)) [])
    (h5 : (List.getD x0 (x5).toNat (⟨#[]⟩ : ByteArray)) = dc1)
    {e : AEx} {st : St} (next : LoopSC cfg.P 2 (lb P_laws_heldStringS 0) (laws_heldStringS_L0a x0 (IntKind.wrap .i64 (x1 + (1 : Int))) (IntKind.wrap .i64 (x5 + (1 : Int)))) e st) :
    LoopSC cfg.P 2 (lb P_laws_heldStringS 0) (laws_heldStringS_L0a x0 x1 x5) e st :=
  loop_iter cfgOK (f := i_laws_heldStringS) (its := [.bool true, .res (.s (.v .str dc1)) [] [] [], .bool false])
    (ps := [decide (x5 < ((List.length x0 : Nat) : Int)) = true,
      0 ≤ x5,
      x5 < (List.length x0 : Int),
      SC cfg.P i_laws_markText [.s (.v (.int .i64) x1)] (.s (.v .str dc1)) [],
      (!(((List.getD x0 (x5).toNat (⟨#[]⟩ : ByteArray))).toList == (dc1).toList)) = false]) (st1 := laws_heldStringS_L0a x0 (IntKind.wrap .i64 (x1 + (1 : Int))) (IntKind.wrap .i64 (x5 + (1 : Int)))) (by kernel_rfl) ⟨(decide_eq_true h1), h2, h3, h4, (nseq_f h5), trivial⟩ next

theorem laws_heldStringS_L0a_x3 (x0 : (List ByteArray)) (x1 : Int) (x5 : Int)
    (h1 : ¬ (x5 < ((List.length x0 : Nat) : Int))) :
    LoopSC cfg.P 2 (lb P_laws_heldStringS 0) (laws_heldStringS_L0a x0 x1 x5) (.exit 0) (laws_heldStringS_L0X2 x0 x1 x5 false) :=
  loop_out cfgOK (f := i_laws_heldStringS) (its := [.bool false])
    (ps := [decide (x5 < ((List.length x0 : Nat) : Int)) = false]) (by kernel_rfl) ⟨(decide_eq_false h1), trivial⟩ (fun h => by cases h)

theorem laws_heldStringS_p1 (a0 : (List ByteArray)) (a1 : Int) (k1y4 : Int)
    (h1 : LoopSC cfg.P 2 (lb P_laws_heldStringS 0) (laws_heldStringS_L0a a0 a1 (0 : Int)) (.ret) (laws_heldStringS_L0X1 k1y4)) :
    SC cfg.P i_laws_heldStringS [.s (.v (.sl .str) a0), .s (.v (.int .i64) a1)] (.s (.v (.int .i64) k1y4)) [] :=
  SC_of_run cfgOK (its := [.loop (fun _ => (.ret, laws_heldStringS_L0X1 k1y4))])
    (ps := [LoopSC cfg.P 2 (lb P_laws_heldStringS 0) (laws_heldStringS_L0a a0 a1 (0 : Int)) (.ret) (laws_heldStringS_L0X1 k1y4)]) (by kernel_rfl) ⟨h1, trivial⟩ get_laws_heldStringS (by decide)

theorem laws_heldStringS_p2 (a0 : (List ByteArray)) (a1 : Int) (k1y0 : (List ByteArray)) (k1y1 : Int) (k1y5 : Int) (k1y9 : Bool)
    (h1 : LoopSC cfg.P 2 (lb P_laws_heldStringS 0) (laws_heldStringS_L0a a0 a1 (0 : Int)) (.exit 0) (laws_heldStringS_L0X2 k1y0 k1y1 k1y5 k1y9)) :
    SC cfg.P i_laws_heldStringS [.s (.v (.sl .str) a0), .s (.v (.int .i64) a1)] (.s (.v (.int .i64) k1y1)) [] :=
  SC_of_run cfgOK (its := [.loop (fun _ => (.exit 0, laws_heldStringS_L0X2 k1y0 k1y1 k1y5 k1y9))])
    (ps := [LoopSC cfg.P 2 (lb P_laws_heldStringS 0) (laws_heldStringS_L0a a0 a1 (0 : Int)) (.exit 0) (laws_heldStringS_L0X2 k1y0 k1y1 k1y5 k1y9)]) (by kernel_rfl) ⟨h1, trivial⟩ get_laws_heldStringS (by decide)

/-! ### spec_trIs -/


theorem spec_trIs_p1 (a0 : ByteArray) (c1 : Int) (c2 : Int)
    (h1 : ((a0).size : Int) ≤ (33 : Int))
    (h2 : SC cfg.P i_spec_trCarets [.s (.v .str a0)] (.s (.v (.int .i64) c1)) [])
    (h3 : c1 ≤ (8 : Int))
    (h4 : SC cfg.P i_spec_trEnd [.s (.v .str a0), .s (.v (.int .i64) (0 : Int)), .s (.v (.int .i64) (0 : Int))] (.s (.v (.int .i64) c2)) [])
    (h5 : c2 = ((a0).size : Int)) :
    SC cfg.P i_spec_trIs [.s (.v .str a0)] (.s (.v .bool true)) [] :=
  SC_of_run cfgOK (its := [.bool true, .res (.s (.v (.int .i64) c1)) [] [] [], .bool true, .res (.s (.v (.int .i64) c2)) [] [] [], .bool true])
    (ps := [decide (((a0).size : Int) ≤ (33 : Int)) = true,
      SC cfg.P i_spec_trCarets [.s (.v .str a0)] (.s (.v (.int .i64) c1)) [],
      decide (c1 ≤ (8 : Int)) = true,
      SC cfg.P i_spec_trEnd [.s (.v .str a0), .s (.v (.int .i64) (0 : Int)), .s (.v (.int .i64) (0 : Int))] (.s (.v (.int .i64) c2)) [],
      (c2 == ((a0).size : Int)) = true]) (by kernel_rfl) ⟨(decide_eq_true h1), h2, (decide_eq_true h3), h4, (beq_t h5), trivial⟩ get_spec_trIs (by decide)

theorem spec_trIs_p2 (a0 : ByteArray) (c1 : Int) (c2 : Int)
    (h1 : ((a0).size : Int) ≤ (33 : Int))
    (h2 : SC cfg.P i_spec_trCarets [.s (.v .str a0)] (.s (.v (.int .i64) c1)) [])
    (h3 : c1 ≤ (8 : Int))
    (h4 : SC cfg.P i_spec_trEnd [.s (.v .str a0), .s (.v (.int .i64) (0 : Int)), .s (.v (.int .i64) (0 : Int))] (.s (.v (.int .i64) c2)) [])
    (h5 : c2 ≠ ((a0).size : Int)) :
    SC cfg.P i_spec_trIs [.s (.v .str a0)] (.s (.v .bool false)) [] :=
  SC_of_run cfgOK (its := [.bool true, .res (.s (.v (.int .i64) c1)) [] [] [], .bool true, .res (.s (.v (.int .i64) c2)) [] [] [], .bool false])
    (ps := [decide (((a0).size : Int) ≤ (33 : Int)) = true,
      SC cfg.P i_spec_trCarets [.s (.v .str a0)] (.s (.v (.int .i64) c1)) [],
      decide (c1 ≤ (8 : Int)) = true,
      SC cfg.P i_spec_trEnd [.s (.v .str a0), .s (.v (.int .i64) (0 : Int)), .s (.v (.int .i64) (0 : Int))] (.s (.v (.int .i64) c2)) [],
      (c2 == ((a0).size : Int)) = false]) (by kernel_rfl) ⟨(decide_eq_true h1), h2, (decide_eq_true h3), h4, (beq_f h5), trivial⟩ get_spec_trIs (by decide)

theorem spec_trIs_p3 (a0 : ByteArray) (c1 : Int)
    (h1 : ((a0).size : Int) ≤ (33 : Int))
    (h2 : SC cfg.P i_spec_trCarets [.s (.v .str a0)] (.s (.v (.int .i64) c1)) [])
    (h3 : ¬ (c1 ≤ (8 : Int))) :
    SC cfg.P i_spec_trIs [.s (.v .str a0)] (.s (.v .bool false)) [] :=
  SC_of_run cfgOK (its := [.bool true, .res (.s (.v (.int .i64) c1)) [] [] [], .bool false])
    (ps := [decide (((a0).size : Int) ≤ (33 : Int)) = true,
      SC cfg.P i_spec_trCarets [.s (.v .str a0)] (.s (.v (.int .i64) c1)) [],
      decide (c1 ≤ (8 : Int)) = false]) (by kernel_rfl) ⟨(decide_eq_true h1), h2, (decide_eq_false h3), trivial⟩ get_spec_trIs (by decide)

theorem spec_trIs_p4 (a0 : ByteArray)
    (h1 : ¬ (((a0).size : Int) ≤ (33 : Int))) :
    SC cfg.P i_spec_trIs [.s (.v .str a0)] (.s (.v .bool false)) [] :=
  SC_of_run cfgOK (its := [.bool false])
    (ps := [decide (((a0).size : Int) ≤ (33 : Int)) = false]) (by kernel_rfl) ⟨(decide_eq_false h1), trivial⟩ get_spec_trIs (by decide)

/-! ### spec_lnKinds -/


def spec_lnKinds_L0a (x6 : Bool) (x7 : Int) (xo16 : (List ByteArray)) : St := mkSt 64 [(5, .s (.osl 16 0)), (6, .s (.v .bool x6)), (7, .s (.v (.int .i64) x7))] [(16, .row t_string .str xo16 0 false)]

def spec_lnKinds_L0X1 (y6 : Bool) (y7 : Int) (y28 : Bool) (yo16 : (List ByteArray)) : St := mkSt 64 [(5, .s (.osl 16 0)), (6, .s (.v .bool y6)), (7, .s (.v (.int .i64) y7)), (28, .s (.v .bool y28))] [(16, .row t_string .str yo16 0 false)]

theorem spec_lnKinds_L0a_i1 (x6 : Bool) (x7 : Int) (xo16 : (List ByteArray))
    (h1 : x7 ≥ (0 : Int))
    (h2 : 0 ≤ x7)
    (h3 : x7 < (List.length xo16 : Int))
    (h4 : (x7).toNat < List.length xo16)
    (h5 : (List.getD xo16 (x7).toNat (⟨#[]⟩ : ByteArray)) ≠ (⟨#[82]⟩ : ByteArray))
    {e : AEx} {st : St} (next : LoopSC cfg.P 1 (lb P_spec_lnKinds 0) (spec_lnKinds_L0a false (IntKind.wrap .i64 (x7 - (1 : Int))) xo16) e st) :
    LoopSC cfg.P 1 (lb P_spec_lnKinds 0) (spec_lnKinds_L0a x6 x7 xo16) e st :=
  loop_iter cfgOK (f := i_spec_lnKinds) (its := [.bool true, .bool true])
    (ps := [decide (x7 ≥ (0 : Int)) = true,
      0 ≤ x7,
      x7 < (List.length xo16 : Int),
      (x7).toNat < List.length xo16,
      (!(((List.getD xo16 (x7).toNat (⟨#[]⟩ : ByteArray))).toList == ((⟨#[82]⟩ : ByteArray)).toList)) = true]) (st1 := spec_lnKinds_L0a false (IntKind.wrap .i64 (x7 - (1 : Int))) xo16) (by kernel_rfl) ⟨(decide_eq_true h1), h2, h3, h4, (nseq_t h5), trivial⟩ next

theorem spec_lnKinds_L0a_i2 (x7 : Int) (xo16 : (List ByteArray))
    (h1 : x7 ≥ (0 : Int))
    (h2 : 0 ≤ x7)
    (h3 : x7 < (List.length xo16 : Int))
    (h4 : (x7).toNat < List.length xo16)
    (h5 : (List.getD xo16 (x7).toNat (⟨#[]⟩ : ByteArray)) = (⟨#[82]⟩ : ByteArray))
    {e : AEx} {st : St} (next : LoopSC cfg.P 1 (lb P_spec_lnKinds 0) (spec_lnKinds_L0a true (IntKind.wrap .i64 (x7 - (1 : Int))) (List.set xo16 (x7).toNat (⟨#[82, 48]⟩ : ByteArray))) e st) :
    LoopSC cfg.P 1 (lb P_spec_lnKinds 0) (spec_lnKinds_L0a true x7 xo16) e st :=
  loop_iter cfgOK (f := i_spec_lnKinds) (its := [.bool true, .bool false])
    (ps := [decide (x7 ≥ (0 : Int)) = true,
      0 ≤ x7,
      x7 < (List.length xo16 : Int),
      (x7).toNat < List.length xo16,
      (!(((List.getD xo16 (x7).toNat (⟨#[]⟩ : ByteArray))).toList == ((⟨#[82]⟩ : ByteArray)).toList)) = false,
      0 ≤ x7,
      x7 < (List.length xo16 : Int),
      (x7).toNat < List.length xo16]) (st1 := spec_lnKinds_L0a true (IntKind.wrap .i64 (x7 - (1 : Int))) (List.set xo16 (x7).toNat (⟨#[82, 48]⟩ : ByteArray))) (by kernel_rfl) ⟨(decide_eq_true h1), h2, h3, h4, (nseq_f h5), h2, h3, h4, trivial⟩ next

theorem spec_lnKinds_L0a_i3 (x7 : Int) (xo16 : (List ByteArray))
    (h1 : x7 ≥ (0 : Int))
    (h2 : 0 ≤ x7)
    (h3 : x7 < (List.length xo16 : Int))
    (h4 : (x7).toNat < List.length xo16)
    (h5 : (List.getD xo16 (x7).toNat (⟨#[]⟩ : ByteArray)) = (⟨#[82]⟩ : ByteArray))
    (h6 : 0 ≤ (IntKind.wrap .i64 (x7 + (1 : Int))))
    (h7 : (IntKind.wrap .i64 (x7 + (1 : Int))) < (List.length xo16 : Int))
    (h8 : ((IntKind.wrap .i64 (x7 + (1 : Int)))).toNat < List.length xo16)
    (h9 : (List.getD xo16 ((IntKind.wrap .i64 (x7 + (1 : Int)))).toNat (⟨#[]⟩ : ByteArray)) = (⟨#[73, 48]⟩ : ByteArray))
    {e : AEx} {st : St} (next : LoopSC cfg.P 1 (lb P_spec_lnKinds 0) (spec_lnKinds_L0a false (IntKind.wrap .i64 (x7 - (1 : Int))) (List.set xo16 (x7).toNat (⟨#[82, 73]⟩ : ByteArray))) e st) :
    LoopSC cfg.P 1 (lb P_spec_lnKinds 0) (spec_lnKinds_L0a false x7 xo16) e st :=
  loop_iter cfgOK (f := i_spec_lnKinds) (its := [.bool true, .bool false, .bool true])
    (ps := [decide (x7 ≥ (0 : Int)) = true,
      0 ≤ x7,
      x7 < (List.length xo16 : Int),
      (x7).toNat < List.length xo16,
      (!(((List.getD xo16 (x7).toNat (⟨#[]⟩ : ByteArray))).toList == ((⟨#[82]⟩ : ByteArray)).toList)) = false,
      0 ≤ (IntKind.wrap .i64 (x7 + (1 : Int))),
      (IntKind.wrap .i64 (x7 + (1 : Int))) < (List.length xo16 : Int),
      ((IntKind.wrap .i64 (x7 + (1 : Int)))).toNat < List.length xo16,
      (((List.getD xo16 ((IntKind.wrap .i64 (x7 + (1 : Int)))).toNat (⟨#[]⟩ : ByteArray))).toList == ((⟨#[73, 48]⟩ : ByteArray)).toList) = true,
      0 ≤ x7,
      x7 < (List.length xo16 : Int),
      (x7).toNat < List.length xo16]) (st1 := spec_lnKinds_L0a false (IntKind.wrap .i64 (x7 - (1 : Int))) (List.set xo16 (x7).toNat (⟨#[82, 73]⟩ : ByteArray))) (by kernel_rfl) ⟨(decide_eq_true h1), h2, h3, h4, (nseq_f h5), h6, h7, h8, (seq_t h9), h2, h3, h4, trivial⟩ next

theorem spec_lnKinds_L0a_i4 (x7 : Int) (xo16 : (List ByteArray))
    (h1 : x7 ≥ (0 : Int))
    (h2 : 0 ≤ x7)
    (h3 : x7 < (List.length xo16 : Int))
    (h4 : (x7).toNat < List.length xo16)
    (h5 : (List.getD xo16 (x7).toNat (⟨#[]⟩ : ByteArray)) = (⟨#[82]⟩ : ByteArray))
    (h6 : 0 ≤ (IntKind.wrap .i64 (x7 + (1 : Int))))
    (h7 : (IntKind.wrap .i64 (x7 + (1 : Int))) < (List.length xo16 : Int))
    (h8 : ((IntKind.wrap .i64 (x7 + (1 : Int)))).toNat < List.length xo16)
    (h9 : (List.getD xo16 ((IntKind.wrap .i64 (x7 + (1 : Int)))).toNat (⟨#[]⟩ : ByteArray)) ≠ (⟨#[73, 48]⟩ : ByteArray))
    (h10 : (List.getD xo16 ((IntKind.wrap .i64 (x7 + (1 : Int)))).toNat (⟨#[]⟩ : ByteArray)) = (⟨#[73, 82]⟩ : ByteArray))
    {e : AEx} {st : St} (next : LoopSC cfg.P 1 (lb P_spec_lnKinds 0) (spec_lnKinds_L0a false (IntKind.wrap .i64 (x7 - (1 : Int))) (List.set xo16 (x7).toNat (⟨#[82, 73]⟩ : ByteArray))) e st) :
    LoopSC cfg.P 1 (lb P_spec_lnKinds 0) (spec_lnKinds_L0a false x7 xo16) e st :=
  loop_iter cfgOK (f := i_spec_lnKinds) (its := [.bool true, .bool false, .bool false, .bool true])
    (ps := [decide (x7 ≥ (0 : Int)) = true,
      0 ≤ x7,
      x7 < (List.length xo16 : Int),
      (x7).toNat < List.length xo16,
      (!(((List.getD xo16 (x7).toNat (⟨#[]⟩ : ByteArray))).toList == ((⟨#[82]⟩ : ByteArray)).toList)) = false,
      0 ≤ (IntKind.wrap .i64 (x7 + (1 : Int))),
      (IntKind.wrap .i64 (x7 + (1 : Int))) < (List.length xo16 : Int),
      ((IntKind.wrap .i64 (x7 + (1 : Int)))).toNat < List.length xo16,
      (((List.getD xo16 ((IntKind.wrap .i64 (x7 + (1 : Int)))).toNat (⟨#[]⟩ : ByteArray))).toList == ((⟨#[73, 48]⟩ : ByteArray)).toList) = false,
      0 ≤ (IntKind.wrap .i64 (x7 + (1 : Int))),
      (IntKind.wrap .i64 (x7 + (1 : Int))) < (List.length xo16 : Int),
      ((IntKind.wrap .i64 (x7 + (1 : Int)))).toNat < List.length xo16,
      (((List.getD xo16 ((IntKind.wrap .i64 (x7 + (1 : Int)))).toNat (⟨#[]⟩ : ByteArray))).toList == ((⟨#[73, 82]⟩ : ByteArray)).toList) = true,
      0 ≤ x7,
      x7 < (List.length xo16 : Int),
      (x7).toNat < List.length xo16]) (st1 := spec_lnKinds_L0a false (IntKind.wrap .i64 (x7 - (1 : Int))) (List.set xo16 (x7).toNat (⟨#[82, 73]⟩ : ByteArray))) (by kernel_rfl) ⟨(decide_eq_true h1), h2, h3, h4, (nseq_f h5), h6, h7, h8, (seq_f h9), h6, h7, h8, (seq_t h10), h2, h3, h4, trivial⟩ next

theorem spec_lnKinds_L0a_i5 (x7 : Int) (xo16 : (List ByteArray))
    (h1 : x7 ≥ (0 : Int))
    (h2 : 0 ≤ x7)
    (h3 : x7 < (List.length xo16 : Int))
    (h4 : (x7).toNat < List.length xo16)
    (h5 : (List.getD xo16 (x7).toNat (⟨#[]⟩ : ByteArray)) = (⟨#[82]⟩ : ByteArray))
    (h6 : 0 ≤ (IntKind.wrap .i64 (x7 + (1 : Int))))
    (h7 : (IntKind.wrap .i64 (x7 + (1 : Int))) < (List.length xo16 : Int))
    (h8 : ((IntKind.wrap .i64 (x7 + (1 : Int)))).toNat < List.length xo16)
    (h9 : (List.getD xo16 ((IntKind.wrap .i64 (x7 + (1 : Int)))).toNat (⟨#[]⟩ : ByteArray)) ≠ (⟨#[73, 48]⟩ : ByteArray))
    (h10 : (List.getD xo16 ((IntKind.wrap .i64 (x7 + (1 : Int)))).toNat (⟨#[]⟩ : ByteArray)) ≠ (⟨#[73, 82]⟩ : ByteArray))
    {e : AEx} {st : St} (next : LoopSC cfg.P 1 (lb P_spec_lnKinds 0) (spec_lnKinds_L0a false (IntKind.wrap .i64 (x7 - (1 : Int))) (List.set xo16 (x7).toNat (⟨#[82, 78]⟩ : ByteArray))) e st) :
    LoopSC cfg.P 1 (lb P_spec_lnKinds 0) (spec_lnKinds_L0a false x7 xo16) e st :=
  loop_iter cfgOK (f := i_spec_lnKinds) (its := [.bool true, .bool false, .bool false, .bool false])
    (ps := [decide (x7 ≥ (0 : Int)) = true,
      0 ≤ x7,
      x7 < (List.length xo16 : Int),
      (x7).toNat < List.length xo16,
      (!(((List.getD xo16 (x7).toNat (⟨#[]⟩ : ByteArray))).toList == ((⟨#[82]⟩ : ByteArray)).toList)) = false,
      0 ≤ (IntKind.wrap .i64 (x7 + (1 : Int))),
      (IntKind.wrap .i64 (x7 + (1 : Int))) < (List.length xo16 : Int),
      ((IntKind.wrap .i64 (x7 + (1 : Int)))).toNat < List.length xo16,
      (((List.getD xo16 ((IntKind.wrap .i64 (x7 + (1 : Int)))).toNat (⟨#[]⟩ : ByteArray))).toList == ((⟨#[73, 48]⟩ : ByteArray)).toList) = false,
      0 ≤ (IntKind.wrap .i64 (x7 + (1 : Int))),
      (IntKind.wrap .i64 (x7 + (1 : Int))) < (List.length xo16 : Int),
      ((IntKind.wrap .i64 (x7 + (1 : Int)))).toNat < List.length xo16,
      (((List.getD xo16 ((IntKind.wrap .i64 (x7 + (1 : Int)))).toNat (⟨#[]⟩ : ByteArray))).toList == ((⟨#[73, 82]⟩ : ByteArray)).toList) = false,
      0 ≤ x7,
      x7 < (List.length xo16 : Int),
      (x7).toNat < List.length xo16]) (st1 := spec_lnKinds_L0a false (IntKind.wrap .i64 (x7 - (1 : Int))) (List.set xo16 (x7).toNat (⟨#[82, 78]⟩ : ByteArray))) (by kernel_rfl) ⟨(decide_eq_true h1), h2, h3, h4, (nseq_f h5), h6, h7, h8, (seq_f h9), h6, h7, h8, (seq_f h10), h2, h3, h4, trivial⟩ next

theorem spec_lnKinds_L0a_x6 (x6 : Bool) (x7 : Int) (xo16 : (List ByteArray))
    (h1 : ¬ (x7 ≥ (0 : Int))) :
    LoopSC cfg.P 1 (lb P_spec_lnKinds 0) (spec_lnKinds_L0a x6 x7 xo16) (.exit 0) (spec_lnKinds_L0X1 x6 x7 false xo16) :=
  loop_out cfgOK (f := i_spec_lnKinds) (its := [.bool false])
    (ps := [decide (x7 ≥ (0 : Int)) = false]) (by kernel_rfl) ⟨(decide_eq_false h1), trivial⟩ (fun h => by cases h)

theorem spec_lnKinds_p1 (a0 : ByteArray)
    (h1 : SC cfg.P i_spec_trLeaf [.s (.v .str a0)] (.s (.v .bool true)) []) :
    SC cfg.P i_spec_lnKinds [.s (.v .str a0)] (.s (.own t_string .str ([] : List ByteArray))) [] :=
  SC_of_run cfgOK (its := [.res (.s (.v .bool true)) [] [] []])
    (ps := [SC cfg.P i_spec_trLeaf [.s (.v .str a0)] (.s (.v .bool true)) []]) (by kernel_rfl) ⟨h1, trivial⟩ get_spec_lnKinds (by decide)

theorem spec_lnKinds_p2 (a0 : ByteArray) (c2a : ByteArray) (c2b : ByteArray) (c3 : (List ByteArray)) (c4 : (List ByteArray)) (k1y6 : Bool) (k1y7 : Int) (k1y28 : Bool) (k1yo16 : (List ByteArray))
    (h1 : SC cfg.P i_spec_trLeaf [.s (.v .str a0)] (.s (.v .bool false)) [])
    (h2 : SC cfg.P i_spec_trSides [.s (.v .str a0)] (.tup [.v .str c2a, .v .str c2b]) [])
    (h3 : SC cfg.P i_spec_lnLeft [.s (.v .str c2a)] (.s (.own t_string .str c3)) [])
    (h4 : sizeOK (List.length c3 + List.length ([(⟨#[76, 76]⟩ : ByteArray)] : List ByteArray)))
    (h5 : SC cfg.P i_spec_lnRight [.s (.v .str c2b)] (.s (.own t_string .str c4)) [])
    (h6 : sizeOK (List.length (c3 ++ ([(⟨#[76, 76]⟩ : ByteArray)] : List ByteArray)) + List.length c4))
    (h7 : (0 : Int) < (List.length ((c3 ++ ([(⟨#[76, 76]⟩ : ByteArray)] : List ByteArray)) ++ c4) : Int))
    (h8 : ((0 : Int)).toNat < List.length ((c3 ++ ([(⟨#[76, 76]⟩ : ByteArray)] : List ByteArray)) ++ c4))
    (h9 : LoopSC cfg.P 1 (lb P_spec_lnKinds 0) (spec_lnKinds_L0a true (IntKind.wrap .i64 (((List.length (List.set ((c3 ++ ([(⟨#[76, 76]⟩ : ByteArray)] : List ByteArray)) ++ c4) ((0 : Int)).toNat (⟨#[76, 48]⟩ : ByteArray)) : Nat) : Int) - (1 : Int))) (List.set ((c3 ++ ([(⟨#[76, 76]⟩ : ByteArray)] : List ByteArray)) ++ c4) ((0 : Int)).toNat (⟨#[76, 48]⟩ : ByteArray))) (.exit 0) (spec_lnKinds_L0X1 k1y6 k1y7 k1y28 k1yo16)) :
    SC cfg.P i_spec_lnKinds [.s (.v .str a0)] (.s (.own t_string .str k1yo16)) [] :=
  SC_of_run cfgOK (its := [.res (.s (.v .bool false)) [] [] [], .res (.tup [.v .str c2a, .v .str c2b]) [] [] [], .res (.s (.own t_string .str c3)) [] [] [16], .res (.s (.own t_string .str c4)) [] [] [20], .loop (fun _ => (.exit 0, spec_lnKinds_L0X1 k1y6 k1y7 k1y28 k1yo16))])
    (ps := [SC cfg.P i_spec_trLeaf [.s (.v .str a0)] (.s (.v .bool false)) [],
      SC cfg.P i_spec_trSides [.s (.v .str a0)] (.tup [.v .str c2a, .v .str c2b]) [],
      SC cfg.P i_spec_lnLeft [.s (.v .str c2a)] (.s (.own t_string .str c3)) [],
      sizeOK (List.length c3 + List.length ([(⟨#[76, 76]⟩ : ByteArray)] : List ByteArray)),
      SC cfg.P i_spec_lnRight [.s (.v .str c2b)] (.s (.own t_string .str c4)) [],
      sizeOK (List.length (c3 ++ ([(⟨#[76, 76]⟩ : ByteArray)] : List ByteArray)) + List.length c4),
      0 ≤ (0 : Int),
      (0 : Int) < (List.length ((c3 ++ ([(⟨#[76, 76]⟩ : ByteArray)] : List ByteArray)) ++ c4) : Int),
      ((0 : Int)).toNat < List.length ((c3 ++ ([(⟨#[76, 76]⟩ : ByteArray)] : List ByteArray)) ++ c4),
      LoopSC cfg.P 1 (lb P_spec_lnKinds 0) (spec_lnKinds_L0a true (IntKind.wrap .i64 (((List.length (List.set ((c3 ++ ([(⟨#[76, 76]⟩ : ByteArray)] : List ByteArray)) ++ c4) ((0 : Int)).toNat (⟨#[76, 48]⟩ : ByteArray)) : Nat) : Int) - (1 : Int))) (List.set ((c3 ++ ([(⟨#[76, 76]⟩ : ByteArray)] : List ByteArray)) ++ c4) ((0 : Int)).toNat (⟨#[76, 48]⟩ : ByteArray))) (.exit 0) (spec_lnKinds_L0X1 k1y6 k1y7 k1y28 k1yo16)]) (by kernel_rfl) ⟨h1, h2, h3, h4, h5, h6, (by decide), h7, h8, h9, trivial⟩ get_spec_lnKinds (by decide)

/-! ### impl_parse -/


theorem impl_parse_p1 (a0 : ByteArray)
    (h1 : ((a0).size : Int) > (25 : Int)) :
    SC cfg.P i_impl_parse [.s (.v .str a0)] (.tup [.v .tree Tr.leaf, .v .bool false]) [] :=
  SC_of_run cfgOK (its := [.bool true])
    (ps := [decide (((a0).size : Int) > (25 : Int)) = true]) (by kernel_rfl) ⟨(decide_eq_true h1), trivial⟩ get_impl_parse (by decide)

theorem impl_parse_p2 (a0 : ByteArray) (c1a : Tr) (c1b : ByteArray)
    (h1 : ¬ (((a0).size : Int) > (25 : Int)))
    (h2 : SC cfg.P i_impl_read [.s (.v .str a0)] (.tup [.v .tree c1a, .v .str c1b, .v .bool true]) [])
    (h3 : c1b ≠ (⟨#[]⟩ : ByteArray)) :
    SC cfg.P i_impl_parse [.s (.v .str a0)] (.tup [.v .tree Tr.leaf, .v .bool false]) [] :=
  SC_of_run cfgOK (its := [.bool false, .res (.tup [.v .tree c1a, .v .str c1b, .v .bool true]) [] [] [], .bool true])
    (ps := [decide (((a0).size : Int) > (25 : Int)) = false,
      SC cfg.P i_impl_read [.s (.v .str a0)] (.tup [.v .tree c1a, .v .str c1b, .v .bool true]) [],
      (!((c1b).toList == ((⟨#[]⟩ : ByteArray)).toList)) = true]) (by kernel_rfl) ⟨(decide_eq_false h1), h2, (nseq_t h3), trivial⟩ get_impl_parse (by decide)

theorem impl_parse_p3 (a0 : ByteArray) (c1a : Tr) (c1b : ByteArray) (c2 : Int)
    (h1 : ¬ (((a0).size : Int) > (25 : Int)))
    (h2 : SC cfg.P i_impl_read [.s (.v .str a0)] (.tup [.v .tree c1a, .v .str c1b, .v .bool true]) [])
    (h3 : c1b = (⟨#[]⟩ : ByteArray))
    (h4 : SC cfg.P i_impl_node_carets [.s (.v .tree c1a)] (.s (.v (.int .i64) c2)) [])
    (h5 : c2 > (8 : Int)) :
    SC cfg.P i_impl_parse [.s (.v .str a0)] (.tup [.v .tree Tr.leaf, .v .bool false]) [] :=
  SC_of_run cfgOK (its := [.bool false, .res (.tup [.v .tree c1a, .v .str c1b, .v .bool true]) [] [] [], .bool false, .res (.s (.v (.int .i64) c2)) [] [] [], .bool true])
    (ps := [decide (((a0).size : Int) > (25 : Int)) = false,
      SC cfg.P i_impl_read [.s (.v .str a0)] (.tup [.v .tree c1a, .v .str c1b, .v .bool true]) [],
      (!((c1b).toList == ((⟨#[]⟩ : ByteArray)).toList)) = false,
      SC cfg.P i_impl_node_carets [.s (.v .tree c1a)] (.s (.v (.int .i64) c2)) [],
      decide (c2 > (8 : Int)) = true]) (by kernel_rfl) ⟨(decide_eq_false h1), h2, (nseq_f h3), h4, (decide_eq_true h5), trivial⟩ get_impl_parse (by decide)

theorem impl_parse_p4 (a0 : ByteArray) (c1a : Tr) (c1b : ByteArray) (c2 : Int)
    (h1 : ¬ (((a0).size : Int) > (25 : Int)))
    (h2 : SC cfg.P i_impl_read [.s (.v .str a0)] (.tup [.v .tree c1a, .v .str c1b, .v .bool true]) [])
    (h3 : c1b = (⟨#[]⟩ : ByteArray))
    (h4 : SC cfg.P i_impl_node_carets [.s (.v .tree c1a)] (.s (.v (.int .i64) c2)) [])
    (h5 : ¬ (c2 > (8 : Int))) :
    SC cfg.P i_impl_parse [.s (.v .str a0)] (.tup [.v .tree c1a, .v .bool true]) [] :=
  SC_of_run cfgOK (its := [.bool false, .res (.tup [.v .tree c1a, .v .str c1b, .v .bool true]) [] [] [], .bool false, .res (.s (.v (.int .i64) c2)) [] [] [], .bool false])
    (ps := [decide (((a0).size : Int) > (25 : Int)) = false,
      SC cfg.P i_impl_read [.s (.v .str a0)] (.tup [.v .tree c1a, .v .str c1b, .v .bool true]) [],
      (!((c1b).toList == ((⟨#[]⟩ : ByteArray)).toList)) = false,
      SC cfg.P i_impl_node_carets [.s (.v .tree c1a)] (.s (.v (.int .i64) c2)) [],
      decide (c2 > (8 : Int)) = false]) (by kernel_rfl) ⟨(decide_eq_false h1), h2, (nseq_f h3), h4, (decide_eq_false h5), trivial⟩ get_impl_parse (by decide)

theorem impl_parse_p5 (a0 : ByteArray) (c1a : Tr) (c1b : ByteArray)
    (h1 : ¬ (((a0).size : Int) > (25 : Int)))
    (h2 : SC cfg.P i_impl_read [.s (.v .str a0)] (.tup [.v .tree c1a, .v .str c1b, .v .bool false]) []) :
    SC cfg.P i_impl_parse [.s (.v .str a0)] (.tup [.v .tree Tr.leaf, .v .bool false]) [] :=
  SC_of_run cfgOK (its := [.bool false, .res (.tup [.v .tree c1a, .v .str c1b, .v .bool false]) [] [] []])
    (ps := [decide (((a0).size : Int) > (25 : Int)) = false,
      SC cfg.P i_impl_read [.s (.v .str a0)] (.tup [.v .tree c1a, .v .str c1b, .v .bool false]) []]) (by kernel_rfl) ⟨(decide_eq_false h1), h2, trivial⟩ get_impl_parse (by decide)

/-! ### impl_node_kinds -/


def impl_node_kinds_L0a (x3 : (List (Int × Bool))) (x10 : (List (Int × Bool))) (x11 : Int) (x12 : Int) : St := mkSt 49 [(3, .s (.v (.sl (.pr (.int .i64) .bool)) x3)), (4, .s (.nilsl t_string .str)), (10, .s (.v (.sl (.pr (.int .i64) .bool)) x10)), (11, .s (.v (.int .i64) x11)), (12, .s (.v (.int .i64) x12))] []

def impl_node_kinds_L0b (x3 : (List (Int × Bool))) (x10 : (List (Int × Bool))) (x11 : Int) (x12 : Int) (xo46 : (List ByteArray)) : St := mkSt 49 [(3, .s (.v (.sl (.pr (.int .i64) .bool)) x3)), (4, .s (.osl 46 0)), (10, .s (.v (.sl (.pr (.int .i64) .bool)) x10)), (11, .s (.v (.int .i64) x11)), (12, .s (.v (.int .i64) x12))] [(46, .row t_string .str xo46 0 false)]

def impl_node_kinds_L0X1 (y3 : (List (Int × Bool))) (y10 : (List (Int × Bool))) (y11 : Int) (y12 : Int) (y13 : Bool) : St := mkSt 49 [(3, .s (.v (.sl (.pr (.int .i64) .bool)) y3)), (4, .s (.nilsl t_string .str)), (10, .s (.v (.sl (.pr (.int .i64) .bool)) y10)), (11, .s (.v (.int .i64) y11)), (12, .s (.v (.int .i64) y12)), (13, .s (.v .bool y13))] []

def impl_node_kinds_L0X2 (y3 : (List (Int × Bool))) (y10 : (List (Int × Bool))) (y11 : Int) (y12 : Int) (y13 : Bool) (yo46 : (List ByteArray)) : St := mkSt 49 [(3, .s (.v (.sl (.pr (.int .i64) .bool)) y3)), (4, .s (.osl 46 0)), (10, .s (.v (.sl (.pr (.int .i64) .bool)) y10)), (11, .s (.v (.int .i64) y11)), (12, .s (.v (.int .i64) y12)), (13, .s (.v .bool y13))] [(46, .row t_string .str yo46 0 false)]

theorem impl_node_kinds_L0a_i1 (x3 : (List (Int × Bool))) (x10 : (List (Int × Bool))) (x11 : Int) (x12 : Int)
    (h1 : x12 < x11)
    (h2 : 0 ≤ x12)
    (h3 : x12 < (List.length x10 : Int))
    (h4 : x12 = (0 : Int))
    (h5 : sizeOK (List.length ([(⟨#[76, 48]⟩ : ByteArray)] : List ByteArray)))
    {e : AEx} {st : St} (next : LoopSC cfg.P 1 (lb P_impl_node_kinds 0) (impl_node_kinds_L0b x3 x10 x11 (IntKind.wrap .i64 (x12 + (1 : Int))) ([(⟨#[76, 48]⟩ : ByteArray)] : List ByteArray)) e st) :
    LoopSC cfg.P 1 (lb P_impl_node_kinds 0) (impl_node_kinds_L0a x3 x10 x11 x12) e st :=
  loop_iter cfgOK (f := i_impl_node_kinds) (its := [.bool true, .bool true])
    (ps := [decide (x12 < x11) = true,
      0 ≤ x12,
      x12 < (List.length x10 : Int),
      (x12 == (0 : Int)) = true,
      sizeOK (List.length ([(⟨#[76, 48]⟩ : ByteArray)] : List ByteArray))]) (st1 := impl_node_kinds_L0b x3 x10 x11 (IntKind.wrap .i64 (x12 + (1 : Int))) ([(⟨#[76, 48]⟩ : ByteArray)] : List ByteArray)) (by kernel_rfl) ⟨(decide_eq_true h1), h2, h3, (beq_t h4), h5, trivial⟩ next

theorem impl_node_kinds_L0a_i2 (x3 : (List (Int × Bool))) (x10 : (List (Int × Bool))) (x11 : Int) (x12 : Int)
    (h1 : x12 < x11)
    (h2 : 0 ≤ x12)
    (h3 : x12 < (List.length x10 : Int))
    (h4 : x12 ≠ (0 : Int))
    (h5 : (List.getD x10 (x12).toNat ((0 : Int), false)).1 = (0 : Int))
    (h6 : sizeOK (List.length ([(⟨#[76, 76]⟩ : ByteArray)] : List ByteArray)))
    {e : AEx} {st : St} (next : LoopSC cfg.P 1 (lb P_impl_node_kinds 0) (impl_node_kinds_L0b x3 x10 x11 (IntKind.wrap .i64 (x12 + (1 : Int))) ([(⟨#[76, 76]⟩ : ByteArray)] : List ByteArray)) e st) :
    LoopSC cfg.P 1 (lb P_impl_node_kinds 0) (impl_node_kinds_L0a x3 x10 x11 x12) e st :=
  loop_iter cfgOK (f := i_impl_node_kinds) (its := [.bool true, .bool false, .bool true])
    (ps := [decide (x12 < x11) = true,
      0 ≤ x12,
      x12 < (List.length x10 : Int),
      (x12 == (0 : Int)) = false,
      ((List.getD x10 (x12).toNat ((0 : Int), false)).1 == (0 : Int)) = true,
      sizeOK (List.length ([(⟨#[76, 76]⟩ : ByteArray)] : List ByteArray))]) (st1 := impl_node_kinds_L0b x3 x10 x11 (IntKind.wrap .i64 (x12 + (1 : Int))) ([(⟨#[76, 76]⟩ : ByteArray)] : List ByteArray)) (by kernel_rfl) ⟨(decide_eq_true h1), h2, h3, (beq_f h4), (beq_t h5), h6, trivial⟩ next

theorem impl_node_kinds_L0a_i3 (x3 : (List (Int × Bool))) (x10 : (List (Int × Bool))) (x11 : Int) (x12 : Int)
    (h1 : x12 < x11)
    (h2 : 0 ≤ x12)
    (h3 : x12 < (List.length x10 : Int))
    (h4 : x12 ≠ (0 : Int))
    (h5 : (List.getD x10 (x12).toNat ((0 : Int), false)).1 ≠ (0 : Int))
    (h6 : (List.getD x10 (x12).toNat ((0 : Int), false)).1 = (1 : Int))
    (h7 : x12 ≤ (List.length x3 : Int))
    (h8 : SC cfg.P i_slices_ContainsFunc [.s (.v (.sl (.pr (.int .i64) .bool)) (cutL x3 x12 ((List.length x3 : Nat) : Int))), .fn i_impl_node_kinds_k1 [] []] (.s (.v .bool true)) [])
    (h9 : 0 ≤ (IntKind.wrap .i64 (x12 + (1 : Int))))
    (h10 : (IntKind.wrap .i64 (x12 + (1 : Int))) < (List.length x3 : Int))
    (h11 : (List.getD x3 ((IntKind.wrap .i64 (x12 + (1 : Int)))).toNat ((0 : Int), false)).1 = (2 : Int))
    (h12 : sizeOK (List.length ([(⟨#[82, 73]⟩ : ByteArray)] : List ByteArray)))
    {e : AEx} {st : St} (next : LoopSC cfg.P 1 (lb P_impl_node_kinds 0) (impl_node_kinds_L0b x3 x10 x11 (IntKind.wrap .i64 (x12 + (1 : Int))) ([(⟨#[82, 73]⟩ : ByteArray)] : List ByteArray)) e st) :
    LoopSC cfg.P 1 (lb P_impl_node_kinds 0) (impl_node_kinds_L0a x3 x10 x11 x12) e st :=
  loop_iter cfgOK (f := i_impl_node_kinds) (its := [.bool true, .bool false, .bool false, .bool true, .res (.s (.v .bool true)) [] [] [], .bool true])
    (ps := [decide (x12 < x11) = true,
      0 ≤ x12,
      x12 < (List.length x10 : Int),
      (x12 == (0 : Int)) = false,
      ((List.getD x10 (x12).toNat ((0 : Int), false)).1 == (0 : Int)) = false,
      ((List.getD x10 (x12).toNat ((0 : Int), false)).1 == (1 : Int)) = true,
      0 ≤ x12,
      x12 ≤ (List.length x3 : Int),
      SC cfg.P i_slices_ContainsFunc [.s (.v (.sl (.pr (.int .i64) .bool)) (cutL x3 x12 ((List.length x3 : Nat) : Int))), .fn i_impl_node_kinds_k1 [] []] (.s (.v .bool true)) [],
      0 ≤ (IntKind.wrap .i64 (x12 + (1 : Int))),
      (IntKind.wrap .i64 (x12 + (1 : Int))) < (List.length x3 : Int),
      ((List.getD x3 ((IntKind.wrap .i64 (x12 + (1 : Int)))).toNat ((0 : Int), false)).1 == (2 : Int)) = true,
      sizeOK (List.length ([(⟨#[82, 73]⟩ : ByteArray)] : List ByteArray))]) (st1 := impl_node_kinds_L0b x3 x10 x11 (IntKind.wrap .i64 (x12 + (1 : Int))) ([(⟨#[82, 73]⟩ : ByteArray)] : List ByteArray)) (by kernel_rfl) ⟨(decide_eq_true h1), h2, h3, (beq_f h4), (beq_f h5), (beq_t h6), h2, h7, h8, h9, h10, (beq_t h11), h12, trivial⟩ next

theorem impl_node_kinds_L0a_i4 (x3 : (List (Int × Bool))) (x10 : (List (Int × Bool))) (x11 : Int) (x12 : Int)
    (h1 : x12 < x11)
    (h2 : 0 ≤ x12)
    (h3 : x12 < (List.length x10 : Int))
    (h4 : x12 ≠ (0 : Int))
    (h5 : (List.getD x10 (x12).toNat ((0 : Int), false)).1 ≠ (0 : Int))
    (h6 : (List.getD x10 (x12).toNat ((0 : Int), false)).1 = (1 : Int))
    (h7 : x12 ≤ (List.length x3 : Int))
    (h8 : SC cfg.P i_slices_ContainsFunc [.s (.v (.sl (.pr (.int .i64) .bool)) (cutL x3 x12 ((List.length x3 : Nat) : Int))), .fn i_impl_node_kinds_k1 [] []] (.s (.v .bool true)) [])
    (h9 : 0 ≤ (IntKind.wrap .i64 (x12 + (1 : Int))))
    (h10 : (IntKind.wrap .i64 (x12 + (1 : Int))) < (List.length x3 : Int))
    (h11 : (List.getD x3 ((IntKind.wrap .i64 (x12 + (1 : Int)))).toNat ((0 : Int), false)).1 ≠ (2 : Int))
    (h12 : sizeOK (List.length ([(⟨#[82, 78]⟩ : ByteArray)] : List ByteArray)))
    {e : AEx} {st : St} (next : LoopSC cfg.P 1 (lb P_impl_node_kinds 0) (impl_node_kinds_L0b x3 x10 x11 (IntKind.wrap .i64 (x12 + (1 : Int))) ([(⟨#[82, 78]⟩ : ByteArray)] : List ByteArray)) e st) :
    LoopSC cfg.P 1 (lb P_impl_node_kinds 0) (impl_node_kinds_L0a x3 x10 x11 x12) e st :=
  loop_iter cfgOK (f := i_impl_node_kinds) (its := [.bool true, .bool false, .bool false, .bool true, .res (.s (.v .bool true)) [] [] [], .bool false])
    (ps := [decide (x12 < x11) = true,
      0 ≤ x12,
      x12 < (List.length x10 : Int),
      (x12 == (0 : Int)) = false,
      ((List.getD x10 (x12).toNat ((0 : Int), false)).1 == (0 : Int)) = false,
      ((List.getD x10 (x12).toNat ((0 : Int), false)).1 == (1 : Int)) = true,
      0 ≤ x12,
      x12 ≤ (List.length x3 : Int),
      SC cfg.P i_slices_ContainsFunc [.s (.v (.sl (.pr (.int .i64) .bool)) (cutL x3 x12 ((List.length x3 : Nat) : Int))), .fn i_impl_node_kinds_k1 [] []] (.s (.v .bool true)) [],
      0 ≤ (IntKind.wrap .i64 (x12 + (1 : Int))),
      (IntKind.wrap .i64 (x12 + (1 : Int))) < (List.length x3 : Int),
      ((List.getD x3 ((IntKind.wrap .i64 (x12 + (1 : Int)))).toNat ((0 : Int), false)).1 == (2 : Int)) = false,
      sizeOK (List.length ([(⟨#[82, 78]⟩ : ByteArray)] : List ByteArray))]) (st1 := impl_node_kinds_L0b x3 x10 x11 (IntKind.wrap .i64 (x12 + (1 : Int))) ([(⟨#[82, 78]⟩ : ByteArray)] : List ByteArray)) (by kernel_rfl) ⟨(decide_eq_true h1), h2, h3, (beq_f h4), (beq_f h5), (beq_t h6), h2, h7, h8, h9, h10, (beq_f h11), h12, trivial⟩ next

theorem impl_node_kinds_L0a_i5 (x3 : (List (Int × Bool))) (x10 : (List (Int × Bool))) (x11 : Int) (x12 : Int)
    (h1 : x12 < x11)
    (h2 : 0 ≤ x12)
    (h3 : x12 < (List.length x10 : Int))
    (h4 : x12 ≠ (0 : Int))
    (h5 : (List.getD x10 (x12).toNat ((0 : Int), false)).1 ≠ (0 : Int))
    (h6 : (List.getD x10 (x12).toNat ((0 : Int), false)).1 = (1 : Int))
    (h7 : x12 ≤ (List.length x3 : Int))
    (h8 : SC cfg.P i_slices_ContainsFunc [.s (.v (.sl (.pr (.int .i64) .bool)) (cutL x3 x12 ((List.length x3 : Nat) : Int))), .fn i_impl_node_kinds_k1 [] []] (.s (.v .bool false)) [])
    (h9 : sizeOK (List.length ([(⟨#[82, 48]⟩ : ByteArray)] : List ByteArray)))
    {e : AEx} {st : St} (next : LoopSC cfg.P 1 (lb P_impl_node_kinds 0) (impl_node_kinds_L0b x3 x10 x11 (IntKind.wrap .i64 (x12 + (1 : Int))) ([(⟨#[82, 48]⟩ : ByteArray)] : List ByteArray)) e st) :
    LoopSC cfg.P 1 (lb P_impl_node_kinds 0) (impl_node_kinds_L0a x3 x10 x11 x12) e st :=
  loop_iter cfgOK (f := i_impl_node_kinds) (its := [.bool true, .bool false, .bool false, .bool true, .res (.s (.v .bool false)) [] [] []])
    (ps := [decide (x12 < x11) = true,
      0 ≤ x12,
      x12 < (List.length x10 : Int),
      (x12 == (0 : Int)) = false,
      ((List.getD x10 (x12).toNat ((0 : Int), false)).1 == (0 : Int)) = false,
      ((List.getD x10 (x12).toNat ((0 : Int), false)).1 == (1 : Int)) = true,
      0 ≤ x12,
      x12 ≤ (List.length x3 : Int),
      SC cfg.P i_slices_ContainsFunc [.s (.v (.sl (.pr (.int .i64) .bool)) (cutL x3 x12 ((List.length x3 : Nat) : Int))), .fn i_impl_node_kinds_k1 [] []] (.s (.v .bool false)) [],
      sizeOK (List.length ([(⟨#[82, 48]⟩ : ByteArray)] : List ByteArray))]) (st1 := impl_node_kinds_L0b x3 x10 x11 (IntKind.wrap .i64 (x12 + (1 : Int))) ([(⟨#[82, 48]⟩ : ByteArray)] : List ByteArray)) (by kernel_rfl) ⟨(decide_eq_true h1), h2, h3, (beq_f h4), (beq_f h5), (beq_t h6), h2, h7, h8, h9, trivial⟩ next

theorem impl_node_kinds_L0a_i6 (x3 : (List (Int × Bool))) (x10 : (List (Int × Bool))) (x11 : Int) (x12 : Int)
    (h1 : x12 < x11)
    (h2 : 0 ≤ x12)
    (h3 : x12 < (List.length x10 : Int))
    (h4 : x12 ≠ (0 : Int))
    (h5 : (List.getD x10 (x12).toNat ((0 : Int), false)).1 ≠ (0 : Int))
    (h6 : (List.getD x10 (x12).toNat ((0 : Int), false)).1 ≠ (1 : Int))
    (h7 : (List.getD x10 (x12).toNat ((0 : Int), false)).2 = true)
    (h8 : sizeOK (List.length ([(⟨#[73, 48]⟩ : ByteArray)] : List ByteArray)))
    {e : AEx} {st : St} (next : LoopSC cfg.P 1 (lb P_impl_node_kinds 0) (impl_node_kinds_L0b x3 x10 x11 (IntKind.wrap .i64 (x12 + (1 : Int))) ([(⟨#[73, 48]⟩ : ByteArray)] : List ByteArray)) e st) :
    LoopSC cfg.P 1 (lb P_impl_node_kinds 0) (impl_node_kinds_L0a x3 x10 x11 x12) e st :=
  loop_iter cfgOK (f := i_impl_node_kinds) (its := [.bool true, .bool false, .bool false, .bool false, .bool true])
    (ps := [decide (x12 < x11) = true,
      0 ≤ x12,
      x12 < (List.length x10 : Int),
      (x12 == (0 : Int)) = false,
      ((List.getD x10 (x12).toNat ((0 : Int), false)).1 == (0 : Int)) = false,
      ((List.getD x10 (x12).toNat ((0 : Int), false)).1 == (1 : Int)) = false,
      (List.getD x10 (x12).toNat ((0 : Int), false)).2 = true,
      sizeOK (List.length ([(⟨#[73, 48]⟩ : ByteArray)] : List ByteArray))]) (st1 := impl_node_kinds_L0b x3 x10 x11 (IntKind.wrap .i64 (x12 + (1 : Int))) ([(⟨#[73, 48]⟩ : ByteArray)] : List ByteArray)) (by kernel_rfl) ⟨(decide_eq_true h1), h2, h3, (beq_f h4), (beq_f h5), (beq_f h6), h7, h8, trivial⟩ next

theorem impl_node_kinds_L0a_i7 (x3 : (List (Int × Bool))) (x10 : (List (Int × Bool))) (x11 : Int) (x12 : Int)
    (h1 : x12 < x11)
    (h2 : 0 ≤ x12)
    (h3 : x12 < (List.length x10 : Int))
    (h4 : x12 ≠ (0 : Int))
    (h5 : (List.getD x10 (x12).toNat ((0 : Int), false)).1 ≠ (0 : Int))
    (h6 : (List.getD x10 (x12).toNat ((0 : Int), false)).1 ≠ (1 : Int))
    (h7 : (List.getD x10 (x12).toNat ((0 : Int), false)).2 = false)
    (h8 : sizeOK (List.length ([(⟨#[73, 82]⟩ : ByteArray)] : List ByteArray)))
    {e : AEx} {st : St} (next : LoopSC cfg.P 1 (lb P_impl_node_kinds 0) (impl_node_kinds_L0b x3 x10 x11 (IntKind.wrap .i64 (x12 + (1 : Int))) ([(⟨#[73, 82]⟩ : ByteArray)] : List ByteArray)) e st) :
    LoopSC cfg.P 1 (lb P_impl_node_kinds 0) (impl_node_kinds_L0a x3 x10 x11 x12) e st :=
  loop_iter cfgOK (f := i_impl_node_kinds) (its := [.bool true, .bool false, .bool false, .bool false, .bool false])
    (ps := [decide (x12 < x11) = true,
      0 ≤ x12,
      x12 < (List.length x10 : Int),
      (x12 == (0 : Int)) = false,
      ((List.getD x10 (x12).toNat ((0 : Int), false)).1 == (0 : Int)) = false,
      ((List.getD x10 (x12).toNat ((0 : Int), false)).1 == (1 : Int)) = false,
      (List.getD x10 (x12).toNat ((0 : Int), false)).2 = false,
      sizeOK (List.length ([(⟨#[73, 82]⟩ : ByteArray)] : List ByteArray))]) (st1 := impl_node_kinds_L0b x3 x10 x11 (IntKind.wrap .i64 (x12 + (1 : Int))) ([(⟨#[73, 82]⟩ : ByteArray)] : List ByteArray)) (by kernel_rfl) ⟨(decide_eq_true h1), h2, h3, (beq_f h4), (beq_f h5), (beq_f h6), h7, h8, trivial⟩ next

theorem impl_node_kinds_L0a_x8 (x3 : (List (Int × Bool))) (x10 : (List (Int × Bool))) (x11 : Int) (x12 : Int)
    (h1 : ¬ (x12 < x11)) :
    LoopSC cfg.P 1 (lb P_impl_node_kinds 0) (impl_node_kinds_L0a x3 x10 x11 x12) (.exit 0) (impl_node_kinds_L0X1 x3 x10 x11 x12 false) :=
  loop_out cfgOK (f := i_impl_node_kinds) (its := [.bool false])
    (ps := [decide (x12 < x11) = false]) (by kernel_rfl) ⟨(decide_eq_false h1), trivial⟩ (fun h => by cases h)

theorem impl_node_kinds_L0b_i1 (x3 : (List (Int × Bool))) (x10 : (List (Int × Bool))) (x11 : Int) (x12 : Int) (xo46 : (List ByteArray))
    (h1 : x12 < x11)
    (h2 : 0 ≤ x12)
    (h3 : x12 < (List.length x10 : Int))
    (h4 : x12 = (0 : Int))
    (h5 : sizeOK (List.length xo46 + List.length ([(⟨#[76, 48]⟩ : ByteArray)] : List ByteArray)))
    {e : AEx} {st : St} (next : LoopSC cfg.P 1 (lb P_impl_node_kinds 0) (impl_node_kinds_L0b x3 x10 x11 (IntKind.wrap .i64 (x12 + (1 : Int))) (xo46 ++ ([(⟨#[76, 48]⟩ : ByteArray)] : List ByteArray))) e st) :
    LoopSC cfg.P 1 (lb P_impl_node_kinds 0) (impl_node_kinds_L0b x3 x10 x11 x12 xo46) e st :=
  loop_iter cfgOK (f := i_impl_node_kinds) (its := [.bool true, .bool true])
    (ps := [decide (x12 < x11) = true,
      0 ≤ x12,
      x12 < (List.length x10 : Int),
      (x12 == (0 : Int)) = true,
      sizeOK (List.length xo46 + List.length ([(⟨#[76, 48]⟩ : ByteArray)] : List ByteArray))]) (st1 := impl_node_kinds_L0b x3 x10 x11 (IntKind.wrap .i64 (x12 + (1 : Int))) (xo46 ++ ([(⟨#[76, 48]⟩ : ByteArray)] : List ByteArray))) (by kernel_rfl) ⟨(decide_eq_true h1), h2, h3, (beq_t h4), h5, trivial⟩ next

theorem impl_node_kinds_L0b_i2 (x3 : (List (Int × Bool))) (x10 : (List (Int × Bool))) (x11 : Int) (x12 : Int) (xo46 : (List ByteArray))
    (h1 : x12 < x11)
    (h2 : 0 ≤ x12)
    (h3 : x12 < (List.length x10 : Int))
    (h4 : x12 ≠ (0 : Int))
    (h5 : (List.getD x10 (x12).toNat ((0 : Int), false)).1 = (0 : Int))
    (h6 : sizeOK (List.length xo46 + List.length ([(⟨#[76, 76]⟩ : ByteArray)] : List ByteArray)))
    {e : AEx} {st : St} (next : LoopSC cfg.P 1 (lb P_impl_node_kinds 0) (impl_node_kinds_L0b x3 x10 x11 (IntKind.wrap .i64 (x12 + (1 : Int))) (xo46 ++ ([(⟨#[76, 76]⟩ : ByteArray)] : List ByteArray))) e st) :
    LoopSC cfg.P 1 (lb P_impl_node_kinds 0) (impl_node_kinds_L0b x3 x10 x11 x12 xo46) e st :=
  loop_iter cfgOK (f := i_impl_node_kinds) (its := [.bool true, .bool false, .bool true])
    (ps := [decide (x12 < x11) = true,
      0 ≤ x12,
      x12 < (List.length x10 : Int),
      (x12 == (0 : Int)) = false,
      ((List.getD x10 (x12).toNat ((0 : Int), false)).1 == (0 : Int)) = true,
      sizeOK (List.length xo46 + List.length ([(⟨#[76, 76]⟩ : ByteArray)] : List ByteArray))]) (st1 := impl_node_kinds_L0b x3 x10 x11 (IntKind.wrap .i64 (x12 + (1 : Int))) (xo46 ++ ([(⟨#[76, 76]⟩ : ByteArray)] : List ByteArray))) (by kernel_rfl) ⟨(decide_eq_true h1), h2, h3, (beq_f h4), (beq_t h5), h6, trivial⟩ next

theorem impl_node_kinds_L0b_i3 (x3 : (List (Int × Bool))) (x10 : (List (Int × Bool))) (x11 : Int) (x12 : Int) (xo46 : (List ByteArray))
    (h1 : x12 < x11)
    (h2 : 0 ≤ x12)
    (h3 : x12 < (List.length x10 : Int))
    (h4 : x12 ≠ (0 : Int))
    (h5 : (List.getD x10 (x12).toNat ((0 : Int), false)).1 ≠ (0 : Int))
    (h6 : (List.getD x10 (x12).toNat ((0 : Int), false)).1 = (1 : Int))
    (h7 : x12 ≤ (List.length x3 : Int))
    (h8 : SC cfg.P i_slices_ContainsFunc [.s (.v (.sl (.pr (.int .i64) .bool)) (cutL x3 x12 ((List.length x3 : Nat) : Int))), .fn i_impl_node_kinds_k1 [] []] (.s (.v .bool true)) [])
    (h9 : 0 ≤ (IntKind.wrap .i64 (x12 + (1 : Int))))
    (h10 : (IntKind.wrap .i64 (x12 + (1 : Int))) < (List.length x3 : Int))
    (h11 : (List.getD x3 ((IntKind.wrap .i64 (x12 + (1 : Int)))).toNat ((0 : Int), false)).1 = (2 : Int))
    (h12 : sizeOK (List.length xo46 + List.length ([(⟨#[82, 73]⟩ : ByteArray)] : List ByteArray)))
    {e : AEx} {st : St} (next : LoopSC cfg.P 1 (lb P_impl_node_kinds 0) (impl_node_kinds_L0b x3 x10 x11 (IntKind.wrap .i64 (x12 + (1 : Int))) (xo46 ++ ([(⟨#[82, 73]⟩ : ByteArray)] : List ByteArray))) e st) :
    LoopSC cfg.P 1 (lb P_impl_node_kinds 0) (impl_node_kinds_L0b x3 x10 x11 x12 xo46) e st :=
  loop_iter cfgOK (f := i_impl_node_kinds) (its := [.bool true, .bool false, .bool false, .bool true, .res (.s (.v .bool true)) [] [] [], .bool true])
    (ps := [decide (x12 < x11) = true,
      0 ≤ x12,
      x12 < (List.length x10 : Int),
      (x12 == (0 : Int)) = false,
      ((List.getD x10 (x12).toNat ((0 : Int), false)).1 == (0 : Int)) = false,
      ((List.getD x10 (x12).toNat ((0 : Int), false)).1 == (1 : Int)) = true,
      0 ≤ x12,
      x12 ≤ (List.length x3 : Int),
      SC cfg.P i_slices_ContainsFunc [.s (.v (.sl (.pr (.int .i64) .bool)) (cutL x3 x12 ((List.length x3 : Nat) : Int))), .fn i_impl_node_kinds_k1 [] []] (.s (.v .bool true)) [],
      0 ≤ (IntKind.wrap .i64 (x12 + (1 : Int))),
      (IntKind.wrap .i64 (x12 + (1 : Int))) < (List.length x3 : Int),
      ((List.getD x3 ((IntKind.wrap .i64 (x12 + (1 : Int)))).toNat ((0 : Int), false)).1 == (2 : Int)) = true,
      sizeOK (List.length xo46 + List.length ([(⟨#[82, 73]⟩ : ByteArray)] : List ByteArray))]) (st1 := impl_node_kinds_L0b x3 x10 x11 (IntKind.wrap .i64 (x12 + (1 : Int))) (xo46 ++ ([(⟨#[82, 73]⟩ : ByteArray)] : List ByteArray))) (by kernel_rfl) ⟨(decide_eq_true h1), h2, h3, (beq_f h4), (beq_f h5), (beq_t h6), h2, h7, h8, h9, h10, (beq_t h11), h12, trivial⟩ next

theorem impl_node_kinds_L0b_i4 (x3 : (List (Int × Bool))) (x10 : (List (Int × Bool))) (x11 : Int) (x12 : Int) (xo46 : (List ByteArray))
    (h1 : x12 < x11)
    (h2 : 0 ≤ x12)
    (h3 : x12 < (List.length x10 : Int))
    (h4 : x12 ≠ (0 : Int))
    (h5 : (List.getD x10 (x12).toNat ((0 : Int), false)).1 ≠ (0 : Int))
    (h6 : (List.getD x10 (x12).toNat ((0 : Int), false)).1 = (1 : Int))
    (h7 : x12 ≤ (List.length x3 : Int))
    (h8 : SC cfg.P i_slices_ContainsFunc [.s (.v (.sl (.pr (.int .i64) .bool)) (cutL x3 x12 ((List.length x3 : Nat) : Int))), .fn i_impl_node_kinds_k1 [] []] (.s (.v .bool true)) [])
    (h9 : 0 ≤ (IntKind.wrap .i64 (x12 + (1 : Int))))
    (h10 : (IntKind.wrap .i64 (x12 + (1 : Int))) < (List.length x3 : Int))
    (h11 : (List.getD x3 ((IntKind.wrap .i64 (x12 + (1 : Int)))).toNat ((0 : Int), false)).1 ≠ (2 : Int))
    (h12 : sizeOK (List.length xo46 + List.length ([(⟨#[82, 78]⟩ : ByteArray)] : List ByteArray)))
    {e : AEx} {st : St} (next : LoopSC cfg.P 1 (lb P_impl_node_kinds 0) (impl_node_kinds_L0b x3 x10 x11 (IntKind.wrap .i64 (x12 + (1 : Int))) (xo46 ++ ([(⟨#[82, 78]⟩ : ByteArray)] : List ByteArray))) e st) :
    LoopSC cfg.P 1 (lb P_impl_node_kinds 0) (impl_node_kinds_L0b x3 x10 x11 x12 xo46) e st :=
  loop_iter cfgOK (f := i_impl_node_kinds) (its := [.bool true, .bool false, .bool false, .bool true, .res (.s (.v .bool true)) [] [] [], .bool false])
    (ps := [decide (x12 < x11) = true,
      0 ≤ x12,
      x12 < (List.length x10 : Int),
      (x12 == (0 : Int)) = false,
      ((List.getD x10 (x12).toNat ((0 : Int), false)).1 == (0 : Int)) = false,
      ((List.getD x10 (x12).toNat ((0 : Int), false)).1 == (1 : Int)) = true,
      0 ≤ x12,
      x12 ≤ (List.length x3 : Int),
      SC cfg.P i_slices_ContainsFunc [.s (.v (.sl (.pr (.int .i64) .bool)) (cutL x3 x12 ((List.length x3 : Nat) : Int))), .fn i_impl_node_kinds_k1 [] []] (.s (.v .bool true)) [],
      0 ≤ (IntKind.wrap .i64 (x12 + (1 : Int))),
      (IntKind.wrap .i64 (x12 + (1 : Int))) < (List.length x3 : Int),
      ((List.getD x3 ((IntKind.wrap .i64 (x12 + (1 : Int)))).toNat ((0 : Int), false)).1 == (2 : Int)) = false,
      sizeOK (List.length xo46 + List.length ([(⟨#[82, 78]⟩ : ByteArray)] : List ByteArray))]) (st1 := impl_node_kinds_L0b x3 x10 x11 (IntKind.wrap .i64 (x12 + (1 : Int))) (xo46 ++ ([(⟨#[82, 78]⟩ : ByteArray)] : List ByteArray))) (by kernel_rfl) ⟨(decide_eq_true h1), h2, h3, (beq_f h4), (beq_f h5), (beq_t h6), h2, h7, h8, h9, h10, (beq_f h11), h12, trivial⟩ next

theorem impl_node_kinds_L0b_i5 (x3 : (List (Int × Bool))) (x10 : (List (Int × Bool))) (x11 : Int) (x12 : Int) (xo46 : (List ByteArray))
    (h1 : x12 < x11)
    (h2 : 0 ≤ x12)
    (h3 : x12 < (List.length x10 : Int))
    (h4 : x12 ≠ (0 : Int))
    (h5 : (List.getD x10 (x12).toNat ((0 : Int), false)).1 ≠ (0 : Int))
    (h6 : (List.getD x10 (x12).toNat ((0 : Int), false)).1 = (1 : Int))
    (h7 : x12 ≤ (List.length x3 : Int))
    (h8 : SC cfg.P i_slices_ContainsFunc [.s (.v (.sl (.pr (.int .i64) .bool)) (cutL x3 x12 ((List.length x3 : Nat) : Int))), .fn i_impl_node_kinds_k1 [] []] (.s (.v .bool false)) [])
    (h9 : sizeOK (List.length xo46 + List.length ([(⟨#[82, 48]⟩ : ByteArray)] : List ByteArray)))
    {e : AEx} {st : St} (next : LoopSC cfg.P 1 (lb P_impl_node_kinds 0) (impl_node_kinds_L0b x3 x10 x11 (IntKind.wrap .i64 (x12 + (1 : Int))) (xo46 ++ ([(⟨#[82, 48]⟩ : ByteArray)] : List ByteArray))) e st) :
    LoopSC cfg.P 1 (lb P_impl_node_kinds 0) (impl_node_kinds_L0b x3 x10 x11 x12 xo46) e st :=
  loop_iter cfgOK (f := i_impl_node_kinds) (its := [.bool true, .bool false, .bool false, .bool true, .res (.s (.v .bool false)) [] [] []])
    (ps := [decide (x12 < x11) = true,
      0 ≤ x12,
      x12 < (List.length x10 : Int),
      (x12 == (0 : Int)) = false,
      ((List.getD x10 (x12).toNat ((0 : Int), false)).1 == (0 : Int)) = false,
      ((List.getD x10 (x12).toNat ((0 : Int), false)).1 == (1 : Int)) = true,
      0 ≤ x12,
      x12 ≤ (List.length x3 : Int),
      SC cfg.P i_slices_ContainsFunc [.s (.v (.sl (.pr (.int .i64) .bool)) (cutL x3 x12 ((List.length x3 : Nat) : Int))), .fn i_impl_node_kinds_k1 [] []] (.s (.v .bool false)) [],
      sizeOK (List.length xo46 + List.length ([(⟨#[82, 48]⟩ : ByteArray)] : List ByteArray))]) (st1 := impl_node_kinds_L0b x3 x10 x11 (IntKind.wrap .i64 (x12 + (1 : Int))) (xo46 ++ ([(⟨#[82, 48]⟩ : ByteArray)] : List ByteArray))) (by kernel_rfl) ⟨(decide_eq_true h1), h2, h3, (beq_f h4), (beq_f h5), (beq_t h6), h2, h7, h8, h9, trivial⟩ next

theorem impl_node_kinds_L0b_i6 (x3 : (List (Int × Bool))) (x10 : (List (Int × Bool))) (x11 : Int) (x12 : Int) (xo46 : (List ByteArray))
    (h1 : x12 < x11)
    (h2 : 0 ≤ x12)
    (h3 : x12 < (List.length x10 : Int))
    (h4 : x12 ≠ (0 : Int))
    (h5 : (List.getD x10 (x12).toNat ((0 : Int), false)).1 ≠ (0 : Int))
    (h6 : (List.getD x10 (x12).toNat ((0 : Int), false)).1 ≠ (1 : Int))
    (h7 : (List.getD x10 (x12).toNat ((0 : Int), false)).2 = true)
    (h8 : sizeOK (List.length xo46 + List.length ([(⟨#[73, 48]⟩ : ByteArray)] : List ByteArray)))
    {e : AEx} {st : St} (next : LoopSC cfg.P 1 (lb P_impl_node_kinds 0) (impl_node_kinds_L0b x3 x10 x11 (IntKind.wrap .i64 (x12 + (1 : Int))) (xo46 ++ ([(⟨#[73, 48]⟩ : ByteArray)] : List ByteArray))) e st) :
    LoopSC cfg.P 1 (lb P_impl_node_kinds 0) (impl_node_kinds_L0b x3 x10 x11 x12 xo46) e st :=
  loop_iter cfgOK (f := i_impl_node_kinds) (its := [.bool true, .bool false, .bool false, .bool false, .bool true])
    (ps := [decide (x12 < x11) = true,
      0 ≤ x12,
      x12 < (List.length x10 : Int),
      (x12 == (0 : Int)) = false,
      ((List.getD x10 (x12).toNat ((0 : Int), false)).1 == (0 : Int)) = false,
      ((List.getD x10 (x12).toNat ((0 : Int), false)).1 == (1 : Int)) = false,
      (List.getD x10 (x12).toNat ((0 : Int), false)).2 = true,
      sizeOK (List.length xo46 + List.length ([(⟨#[73, 48]⟩ : ByteArray)] : List ByteArray))]) (st1 := impl_node_kinds_L0b x3 x10 x11 (IntKind.wrap .i64 (x12 + (1 : Int))) (xo46 ++ ([(⟨#[73, 48]⟩ : ByteArray)] : List ByteArray))) (by kernel_rfl) ⟨(decide_eq_true h1), h2, h3, (beq_f h4), (beq_f h5), (beq_f h6), h7, h8, trivial⟩ next

theorem impl_node_kinds_L0b_i7 (x3 : (List (Int × Bool))) (x10 : (List (Int × Bool))) (x11 : Int) (x12 : Int) (xo46 : (List ByteArray))
    (h1 : x12 < x11)
    (h2 : 0 ≤ x12)
    (h3 : x12 < (List.length x10 : Int))
    (h4 : x12 ≠ (0 : Int))
    (h5 : (List.getD x10 (x12).toNat ((0 : Int), false)).1 ≠ (0 : Int))
    (h6 : (List.getD x10 (x12).toNat ((0 : Int), false)).1 ≠ (1 : Int))
    (h7 : (List.getD x10 (x12).toNat ((0 : Int), false)).2 = false)
    (h8 : sizeOK (List.length xo46 + List.length ([(⟨#[73, 82]⟩ : ByteArray)] : List ByteArray)))
    {e : AEx} {st : St} (next : LoopSC cfg.P 1 (lb P_impl_node_kinds 0) (impl_node_kinds_L0b x3 x10 x11 (IntKind.wrap .i64 (x12 + (1 : Int))) (xo46 ++ ([(⟨#[73, 82]⟩ : ByteArray)] : List ByteArray))) e st) :
    LoopSC cfg.P 1 (lb P_impl_node_kinds 0) (impl_node_kinds_L0b x3 x10 x11 x12 xo46) e st :=
  loop_iter cfgOK (f := i_impl_node_kinds) (its := [.bool true, .bool false, .bool false, .bool false, .bool false])
    (ps := [decide (x12 < x11) = true,
      0 ≤ x12,
      x12 < (List.length x10 : Int),
      (x12 == (0 : Int)) = false,
      ((List.getD x10 (x12).toNat ((0 : Int), false)).1 == (0 : Int)) = false,
      ((List.getD x10 (x12).toNat ((0 : Int), false)).1 == (1 : Int)) = false,
      (List.getD x10 (x12).toNat ((0 : Int), false)).2 = false,
      sizeOK (List.length xo46 + List.length ([(⟨#[73, 82]⟩ : ByteArray)] : List ByteArray))]) (st1 := impl_node_kinds_L0b x3 x10 x11 (IntKind.wrap .i64 (x12 + (1 : Int))) (xo46 ++ ([(⟨#[73, 82]⟩ : ByteArray)] : List ByteArray))) (by kernel_rfl) ⟨(decide_eq_true h1), h2, h3, (beq_f h4), (beq_f h5), (beq_f h6), h7, h8, trivial⟩ next

theorem impl_node_kinds_L0b_x8 (x3 : (List (Int × Bool))) (x10 : (List (Int × Bool))) (x11 : Int) (x12 : Int) (xo46 : (List ByteArray))
    (h1 : ¬ (x12 < x11)) :
    LoopSC cfg.P 1 (lb P_impl_node_kinds 0) (impl_node_kinds_L0b x3 x10 x11 x12 xo46) (.exit 0) (impl_node_kinds_L0X2 x3 x10 x11 x12 false xo46) :=
  loop_out cfgOK (f := i_impl_node_kinds) (its := [.bool false])
    (ps := [decide (x12 < x11) = false]) (by kernel_rfl) ⟨(decide_eq_false h1), trivial⟩ (fun h => by cases h)

theorem impl_node_kinds_p1 (a0 : Tr) (c1 : (List (Int × Bool))) (k1y3 : (List (Int × Bool))) (k1y10 : (List (Int × Bool))) (k1y11 : Int) (k1y12 : Int) (k1y13 : Bool)
    (h1 : SC cfg.P i_impl_node_marks [.s (.v .tree a0), .s (.v (.int .i64) (0 : Int)), .s (.v .bool true)] (.s (.v (.sl (.pr (.int .i64) .bool)) c1)) [])
    (h2 : LoopSC cfg.P 1 (lb P_impl_node_kinds 0) (impl_node_kinds_L0a c1 c1 ((List.length c1 : Nat) : Int) (0 : Int)) (.exit 0) (impl_node_kinds_L0X1 k1y3 k1y10 k1y11 k1y12 k1y13)) :
    SC cfg.P i_impl_node_kinds [.s (.v .tree a0)] (.s (.own t_string .str ([] : List ByteArray))) [] :=
  SC_of_run cfgOK (its := [.res (.s (.v (.sl (.pr (.int .i64) .bool)) c1)) [] [] [], .loop (fun _ => (.exit 0, impl_node_kinds_L0X1 k1y3 k1y10 k1y11 k1y12 k1y13))])
    (ps := [SC cfg.P i_impl_node_marks [.s (.v .tree a0), .s (.v (.int .i64) (0 : Int)), .s (.v .bool true)] (.s (.v (.sl (.pr (.int .i64) .bool)) c1)) [],
      LoopSC cfg.P 1 (lb P_impl_node_kinds 0) (impl_node_kinds_L0a c1 c1 ((List.length c1 : Nat) : Int) (0 : Int)) (.exit 0) (impl_node_kinds_L0X1 k1y3 k1y10 k1y11 k1y12 k1y13)]) (by kernel_rfl) ⟨h1, h2, trivial⟩ get_impl_node_kinds (by decide)

theorem impl_node_kinds_p2 (a0 : Tr) (c1 : (List (Int × Bool))) (k1y3 : (List (Int × Bool))) (k1y10 : (List (Int × Bool))) (k1y11 : Int) (k1y12 : Int) (k1y13 : Bool) (k1yo46 : (List ByteArray))
    (h1 : SC cfg.P i_impl_node_marks [.s (.v .tree a0), .s (.v (.int .i64) (0 : Int)), .s (.v .bool true)] (.s (.v (.sl (.pr (.int .i64) .bool)) c1)) [])
    (h2 : LoopSC cfg.P 1 (lb P_impl_node_kinds 0) (impl_node_kinds_L0a c1 c1 ((List.length c1 : Nat) : Int) (0 : Int)) (.exit 0) (impl_node_kinds_L0X2 k1y3 k1y10 k1y11 k1y12 k1y13 k1yo46)) :
    SC cfg.P i_impl_node_kinds [.s (.v .tree a0)] (.s (.own t_string .str k1yo46)) [] :=
  SC_of_run cfgOK (its := [.res (.s (.v (.sl (.pr (.int .i64) .bool)) c1)) [] [] [], .loop (fun _ => (.exit 0, impl_node_kinds_L0X2 k1y3 k1y10 k1y11 k1y12 k1y13 k1yo46))])
    (ps := [SC cfg.P i_impl_node_marks [.s (.v .tree a0), .s (.v (.int .i64) (0 : Int)), .s (.v .bool true)] (.s (.v (.sl (.pr (.int .i64) .bool)) c1)) [],
      LoopSC cfg.P 1 (lb P_impl_node_kinds 0) (impl_node_kinds_L0a c1 c1 ((List.length c1 : Nat) : Int) (0 : Int)) (.exit 0) (impl_node_kinds_L0X2 k1y3 k1y10 k1y11 k1y12 k1y13 k1yo46)]) (by kernel_rfl) ⟨h1, h2, trivial⟩ get_impl_node_kinds (by decide)

/-! ### laws_markText -/


def laws_markText_L0a (x0 : Int) (x3 : ByteArray) : St := mkSt 20 [(0, .s (.v (.int .i64) x0)), (3, .s (.v .str x3))] []

def laws_markText_L0X1 (y0 : Int) (y3 : ByteArray) (y7 : Bool) : St := mkSt 20 [(0, .s (.v (.int .i64) y0)), (3, .s (.v .str y3)), (7, .s (.v .bool y7))] []

theorem laws_markText_L0a_i1 (x0 : Int) (x3 : ByteArray)
    (h1 : x0 > (0 : Int))
    (h2 : (10 : Int) ≠ 0)
    (h3 : ((strOf ([(IntKind.wrap .u8 (IntKind.wrap .i64 ((48 : Int) + (Int.tmod x0 (10 : Int)))))] : List Int))).size + (x3).size ≤ 2 ^ 62)
    {e : AEx} {st : St} (next : LoopSC cfg.P 1 (lb P_laws_markText 0) (laws_markText_L0a (IntKind.wrap .i64 (Int.tdiv x0 (10 : Int))) ((strOf ([(IntKind.wrap .u8 (IntKind.wrap .i64 ((48 : Int) + (Int.tmod x0 (10 : Int)))))] : List Int)) ++ x3)) e st) :
    LoopSC cfg.P 1 (lb P_laws_markText 0) (laws_markText_L0a x0 x3) e st :=
  loop_iter cfgOK (f := i_laws_markText) (its := [.bool true])
    (ps := [decide (x0 > (0 : Int)) = true,
      (10 : Int) ≠ 0,
      ((strOf ([(IntKind.wrap .u8 (IntKind.wrap .i64 ((48 : Int) + (Int.tmod x0 (10 : Int)))))] : List Int))).size + (x3).size ≤ 2 ^ 62,
      (10 : Int) ≠ 0]) (st1 := laws_markText_L0a (IntKind.wrap .i64 (Int.tdiv x0 (10 : Int))) ((strOf ([(IntKind.wrap .u8 (IntKind.wrap .i64 ((48 : Int) + (Int.tmod x0 (10 : Int)))))] : List Int)) ++ x3)) (by kernel_rfl) ⟨(decide_eq_true h1), h2, h3, h2, trivial⟩ next

theorem laws_markText_L0a_x2 (x0 : Int) (x3 : ByteArray)
    (h1 : ¬ (x0 > (0 : Int))) :
    LoopSC cfg.P 1 (lb P_laws_markText 0) (laws_markText_L0a x0 x3) (.exit 0) (laws_markText_L0X1 x0 x3 false) :=
  loop_out cfgOK (f := i_laws_markText) (its := [.bool false])
    (ps := [decide (x0 > (0 : Int)) = false]) (by kernel_rfl) ⟨(decide_eq_false h1), trivial⟩ (fun h => by cases h)

theorem laws_markText_p1 (a0 : Int)
    (h1 : a0 ≤ (0 : Int)) :
    SC cfg.P i_laws_markText [.s (.v (.int .i64) a0)] (.s (.v .str (⟨#[109, 48]⟩ : ByteArray))) [] :=
  SC_of_run cfgOK (its := [.bool true])
    (ps := [decide (a0 ≤ (0 : Int)) = true]) (by kernel_rfl) ⟨(decide_eq_true h1), trivial⟩ get_laws_markText (by decide)

theorem laws_markText_p2 (a0 : Int) (k1y0 : Int) (k1y3 : ByteArray) (k1y7 : Bool)
    (h1 : ¬ (a0 ≤ (0 : Int)))
    (h2 : LoopSC cfg.P 1 (lb P_laws_markText 0) (laws_markText_L0a a0 (⟨#[]⟩ : ByteArray)) (.exit 0) (laws_markText_L0X1 k1y0 k1y3 k1y7))
    (h3 : ((⟨#[109]⟩ : ByteArray)).size + (k1y3).size ≤ 2 ^ 62) :
    SC cfg.P i_laws_markText [.s (.v (.int .i64) a0)] (.s (.v .str ((⟨#[109]⟩ : ByteArray) ++ k1y3))) [] :=
  SC_of_run cfgOK (its := [.bool false, .loop (fun _ => (.exit 0, laws_markText_L0X1 k1y0 k1y3 k1y7))])
    (ps := [decide (a0 ≤ (0 : Int)) = false,
      LoopSC cfg.P 1 (lb P_laws_markText 0) (laws_markText_L0a a0 (⟨#[]⟩ : ByteArray)) (.exit 0) (laws_markText_L0X1 k1y0 k1y3 k1y7),
      ((⟨#[109]⟩ : ByteArray)).size + (k1y3).size ≤ 2 ^ 62]) (by kernel_rfl) ⟨(decide_eq_false h1), h2, h3, trivial⟩ get_laws_markText (by decide)

/-! ### spec_trCarets -/


def spec_trCarets_L0a (x0 : ByteArray) (x3 : Int) (x4 : Int) : St := mkSt 18 [(0, .s (.v .str x0)), (3, .s (.v (.int .i64) x3)), (4, .s (.v (.int .i64) x4))] []

def spec_trCarets_L0X1 (y0 : ByteArray) (y3 : Int) (y4 : Int) (y8 : Bool) : St := mkSt 18 [(0, .s (.v .str y0)), (3, .s (.v (.int .i64) y3)), (4, .s (.v (.int .i64) y4)), (8, .s (.v .bool y8))] []

theorem spec_trCarets_L0a_i1 (x0 : ByteArray) (x3 : Int) (x4 : Int)
    (h1 : x4 < ((x0).size : Int))
    (h2 : 0 ≤ x4)
    (h3 : (bt x0 x4) = (40 : Int))
    {e : AEx} {st : St} (next : LoopSC cfg.P 1 (lb P_spec_trCarets 0) (spec_trCarets_L0a x0 (IntKind.wrap .i64 (x3 + (1 : Int))) (IntKind.wrap .i64 (x4 + (1 : Int)))) e st) :
    LoopSC cfg.P 1 (lb P_spec_trCarets 0) (spec_trCarets_L0a x0 x3 x4) e st :=
  loop_iter cfgOK (f := i_spec_trCarets) (its := [.bool true, .bool true])
    (ps := [decide (x4 < ((x0).size : Int)) = true,
      0 ≤ x4,
      x4 < ((x0).size : Int),
      ((bt x0 x4) == (40 : Int)) = true]) (st1 := spec_trCarets_L0a x0 (IntKind.wrap .i64 (x3 + (1 : Int))) (IntKind.wrap .i64 (x4 + (1 : Int)))) (by kernel_rfl) ⟨(decide_eq_true h1), h2, h1, (beq_t h3), trivial⟩ next

theorem spec_trCarets_L0a_i2 (x0 : ByteArray) (x3 : Int) (x4 : Int)
    (h1 : x4 < ((x0).size : Int))
    (h2 : 0 ≤ x4)
    (h3 : (bt x0 x4) ≠ (40 : Int))
    {e : AEx} {st : St} (next : LoopSC cfg.P 1 (lb P_spec_trCarets 0) (spec_trCarets_L0a x0 x3 (IntKind.wrap .i64 (x4 + (1 : Int)))) e st) :
    LoopSC cfg.P 1 (lb P_spec_trCarets 0) (spec_trCarets_L0a x0 x3 x4) e st :=
  loop_iter cfgOK (f := i_spec_trCarets) (its := [.bool true, .bool false])
    (ps := [decide (x4 < ((x0).size : Int)) = true,
      0 ≤ x4,
      x4 < ((x0).size : Int),
      ((bt x0 x4) == (40 : Int)) = false]) (st1 := spec_trCarets_L0a x0 x3 (IntKind.wrap .i64 (x4 + (1 : Int)))) (by kernel_rfl) ⟨(decide_eq_true h1), h2, h1, (beq_f h3), trivial⟩ next

theorem spec_trCarets_L0a_x3 (x0 : ByteArray) (x3 : Int) (x4 : Int)
    (h1 : ¬ (x4 < ((x0).size : Int))) :
    LoopSC cfg.P 1 (lb P_spec_trCarets 0) (spec_trCarets_L0a x0 x3 x4) (.exit 0) (spec_trCarets_L0X1 x0 x3 x4 false) :=
  loop_out cfgOK (f := i_spec_trCarets) (its := [.bool false])
    (ps := [decide (x4 < ((x0).size : Int)) = false]) (by kernel_rfl) ⟨(decide_eq_false h1), trivial⟩ (fun h => by cases h)

theorem spec_trCarets_p1 (a0 : ByteArray) (k1y0 : ByteArray) (k1y3 : Int) (k1y4 : Int) (k1y8 : Bool)
    (h1 : LoopSC cfg.P 1 (lb P_spec_trCarets 0) (spec_trCarets_L0a a0 (0 : Int) (0 : Int)) (.exit 0) (spec_trCarets_L0X1 k1y0 k1y3 k1y4 k1y8)) :
    SC cfg.P i_spec_trCarets [.s (.v .str a0)] (.s (.v (.int .i64) k1y3)) [] :=
  SC_of_run cfgOK (its := [.loop (fun _ => (.exit 0, spec_trCarets_L0X1 k1y0 k1y3 k1y4 k1y8))])
    (ps := [LoopSC cfg.P 1 (lb P_spec_trCarets 0) (spec_trCarets_L0a a0 (0 : Int) (0 : Int)) (.exit 0) (spec_trCarets_L0X1 k1y0 k1y3 k1y4 k1y8)]) (by kernel_rfl) ⟨h1, trivial⟩ get_spec_trCarets (by decide)

/-! ### spec_trEnd -/


theorem spec_trEnd_p1 (a0 : ByteArray) (a1 : Int) (a2 : Int)
    (h1 : a1 ≥ ((a0).size : Int)) :
    SC cfg.P i_spec_trEnd [.s (.v .str a0), .s (.v (.int .i64) a1), .s (.v (.int .i64) a2)] (.s (.v (.int .i64) (-1 : Int))) [] :=
  SC_of_run cfgOK (its := [.bool true])
    (ps := [decide (a1 ≥ ((a0).size : Int)) = true]) (by kernel_rfl) ⟨(decide_eq_true h1), trivial⟩ get_spec_trEnd (by decide)

theorem spec_trEnd_p2 (a0 : ByteArray) (a1 : Int) (a2 : Int)
    (h1 : ¬ (a1 ≥ ((a0).size : Int)))
    (h2 : a2 > (60 : Int)) :
    SC cfg.P i_spec_trEnd [.s (.v .str a0), .s (.v (.int .i64) a1), .s (.v (.int .i64) a2)] (.s (.v (.int .i64) (-1 : Int))) [] :=
  SC_of_run cfgOK (its := [.bool false, .bool true])
    (ps := [decide (a1 ≥ ((a0).size : Int)) = false,
      decide (a2 > (60 : Int)) = true]) (by kernel_rfl) ⟨(decide_eq_false h1), (decide_eq_true h2), trivial⟩ get_spec_trEnd (by decide)

theorem spec_trEnd_p3 (a0 : ByteArray) (a1 : Int) (a2 : Int)
    (h1 : ¬ (a1 ≥ ((a0).size : Int)))
    (h2 : ¬ (a2 > (60 : Int)))
    (h3 : 0 ≤ a1)
    (h4 : a1 < ((a0).size : Int))
    (h5 : (bt a0 a1) = (46 : Int)) :
    SC cfg.P i_spec_trEnd [.s (.v .str a0), .s (.v (.int .i64) a1), .s (.v (.int .i64) a2)] (.s (.v (.int .i64) (IntKind.wrap .i64 (a1 + (1 : Int))))) [] :=
  SC_of_run cfgOK (its := [.bool false, .bool false, .bool true])
    (ps := [decide (a1 ≥ ((a0).size : Int)) = false,
      decide (a2 > (60 : Int)) = false,
      0 ≤ a1,
      a1 < ((a0).size : Int),
      ((bt a0 a1) == (46 : Int)) = true]) (by kernel_rfl) ⟨(decide_eq_false h1), (decide_eq_false h2), h3, h4, (beq_t h5), trivial⟩ get_spec_trEnd (by decide)

theorem spec_trEnd_p4 (a0 : ByteArray) (a1 : Int) (a2 : Int)
    (h1 : ¬ (a1 ≥ ((a0).size : Int)))
    (h2 : ¬ (a2 > (60 : Int)))
    (h3 : 0 ≤ a1)
    (h4 : a1 < ((a0).size : Int))
    (h5 : (bt a0 a1) ≠ (46 : Int))
    (h6 : (bt a0 a1) ≠ (40 : Int)) :
    SC cfg.P i_spec_trEnd [.s (.v .str a0), .s (.v (.int .i64) a1), .s (.v (.int .i64) a2)] (.s (.v (.int .i64) (-1 : Int))) [] :=
  SC_of_run cfgOK (its := [.bool false, .bool false, .bool false, .bool true])
    (ps := [decide (a1 ≥ ((a0).size : Int)) = false,
      decide (a2 > (60 : Int)) = false,
      0 ≤ a1,
      a1 < ((a0).size : Int),
      ((bt a0 a1) == (46 : Int)) = false,
      0 ≤ a1,
      a1 < ((a0).size : Int),
      ((bt a0 a1) != (40 : Int)) = true]) (by kernel_rfl) ⟨(decide_eq_false h1), (decide_eq_false h2), h3, h4, (beq_f h5), h3, h4, (bne_t h6), trivial⟩ get_spec_trEnd (by decide)

theorem spec_trEnd_p5 (a0 : ByteArray) (a1 : Int) (a2 : Int) (c1 : Int)
    (h1 : ¬ (a1 ≥ ((a0).size : Int)))
    (h2 : ¬ (a2 > (60 : Int)))
    (h3 : 0 ≤ a1)
    (h4 : a1 < ((a0).size : Int))
    (h5 : (bt a0 a1) ≠ (46 : Int))
    (h6 : (bt a0 a1) = (40 : Int))
    (h7 : SC cfg.P i_spec_trEnd [.s (.v .str a0), .s (.v (.int .i64) (IntKind.wrap .i64 (a1 + (1 : Int)))), .s (.v (.int .i64) (IntKind.wrap .i64 (a2 + (1 : Int))))] (.s (.v (.int .i64) c1)) [])
    (h8 : c1 < (0 : Int)) :
    SC cfg.P i_spec_trEnd [.s (.v .str a0), .s (.v (.int .i64) a1), .s (.v (.int .i64) a2)] (.s (.v (.int .i64) (-1 : Int))) [] :=
  SC_of_run cfgOK (its := [.bool false, .bool false, .bool false, .bool false, .res (.s (.v (.int .i64) c1)) [] [] [], .bool true])
    (ps := [decide (a1 ≥ ((a0).size : Int)) = false,
      decide (a2 > (60 : Int)) = false,
      0 ≤ a1,
      a1 < ((a0).size : Int),
      ((bt a0 a1) == (46 : Int)) = false,
      0 ≤ a1,
      a1 < ((a0).size : Int),
      ((bt a0 a1) != (40 : Int)) = false,
      SC cfg.P i_spec_trEnd [.s (.v .str a0), .s (.v (.int .i64) (IntKind.wrap .i64 (a1 + (1 : Int)))), .s (.v (.int .i64) (IntKind.wrap .i64 (a2 + (1 : Int))))] (.s (.v (.int .i64) c1)) [],
      decide (c1 < (0 : Int)) = true]) (by kernel_rfl) ⟨(decide_eq_false h1), (decide_eq_false h2), h3, h4, (beq_f h5), h3, h4, (bne_f h6), h7, (decide_eq_true h8), trivial⟩ get_spec_trEnd (by decide)

theorem spec_trEnd_p6 (a0 : ByteArray) (a1 : Int) (a2 : Int) (c1 : Int) (c2 : Int)
    (h1 : ¬ (a1 ≥ ((a0).size : Int)))
    (h2 : ¬ (a2 > (60 : Int)))
    (h3 : 0 ≤ a1)
    (h4 : a1 < ((a0).size : Int))
    (h5 : (bt a0 a1) ≠ (46 : Int))
    (h6 : (bt a0 a1) = (40 : Int))
    (h7 : SC cfg.P i_spec_trEnd [.s (.v .str a0), .s (.v (.int .i64) (IntKind.wrap .i64 (a1 + (1 : Int)))), .s (.v (.int .i64) (IntKind.wrap .i64 (a2 + (1 : Int))))] (.s (.v (.int .i64) c1)) [])
    (h8 : ¬ (c1 < (0 : Int)))
    (h9 : SC cfg.P i_spec_trEnd [.s (.v .str a0), .s (.v (.int .i64) c1), .s (.v (.int .i64) (IntKind.wrap .i64 (a2 + (1 : Int))))] (.s (.v (.int .i64) c2)) [])
    (h10 : c2 < (0 : Int)) :
    SC cfg.P i_spec_trEnd [.s (.v .str a0), .s (.v (.int .i64) a1), .s (.v (.int .i64) a2)] (.s (.v (.int .i64) (-1 : Int))) [] :=
  SC_of_run cfgOK (its := [.bool false, .bool false, .bool false, .bool false, .res (.s (.v (.int .i64) c1)) [] [] [], .bool false, .res (.s (.v (.int .i64) c2)) [] [] [], .bool true])
    (ps := [decide (a1 ≥ ((a0).size : Int)) = false,
      decide (a2 > (60 : Int)) = false,
      0 ≤ a1,
      a1 < ((a0).size : Int),
      ((bt a0 a1) == (46 : Int)) = false,
      0 ≤ a1,
      a1 < ((a0).size : Int),
      ((bt a0 a1) != (40 : Int)) = false,
      SC cfg.P i_spec_trEnd [.s (.v .str a0), .s (.v (.int .i64) (IntKind.wrap .i64 (a1 + (1 : Int)))), .s (.v (.int .i64) (IntKind.wrap .i64 (a2 + (1 : Int))))] (.s (.v (.int .i64) c1)) [],
      decide (c1 < (0 : Int)) = false,
      SC cfg.P i_spec_trEnd [.s (.v .str a0), .s (.v (.int .i64) c1), .s (.v (.int .i64) (IntKind.wrap .i64 (a2 + (1 : Int))))] (.s (.v (.int .i64) c2)) [],
      decide (c2 < (0 : Int)) = true]) (by kernel_rfl) ⟨(decide_eq_false h1), (decide_eq_false h2), h3, h4, (beq_f h5), h3, h4, (bne_f h6), h7, (decide_eq_false h8), h9, (decide_eq_true h10), trivial⟩ get_spec_trEnd (by decide)

theorem spec_trEnd_p7 (a0 : ByteArray) (a1 : Int) (a2 : Int) (c1 : Int) (c2 : Int)
    (h1 : ¬ (a1 ≥ ((a0).size : Int)))
    (h2 : ¬ (a2 > (60 : Int)))
    (h3 : 0 ≤ a1)
    (h4 : a1 < ((a0).size : Int))
    (h5 : (bt a0 a1) ≠ (46 : Int))
    (h6 : (bt a0 a1) = (40 : Int))
    (h7 : SC cfg.P i_spec_trEnd [.s (.v .str a0), .s (.v (.int .i64) (IntKind.wrap .i64 (a1 + (1 : Int)))), .s (.v (.int .i64) (IntKind.wrap .i64 (a2 + (1 : Int))))] (.s (.v (.int .i64) c1)) [])
    (h8 : ¬ (c1 < (0 : Int)))
    (h9 : SC cfg.P i_spec_trEnd [.s (.v .str a0), .s (.v (.int .i64) c1), .s (.v (.int .i64) (IntKind.wrap .i64 (a2 + (1 : Int))))] (.s (.v (.int .i64) c2)) [])
    (h10 : ¬ (c2 < (0 : Int)))
    (h11 : c2 ≥ ((a0).size : Int)) :
    SC cfg.P i_spec_trEnd [.s (.v .str a0), .s (.v (.int .i64) a1), .s (.v (.int .i64) a2)] (.s (.v (.int .i64) (-1 : Int))) [] :=
  SC_of_run cfgOK (its := [.bool false, .bool false, .bool false, .bool false, .res (.s (.v (.int .i64) c1)) [] [] [], .bool false, .res (.s (.v (.int .i64) c2)) [] [] [], .bool false, .bool true])
    (ps := [decide (a1 ≥ ((a0).size : Int)) = false,
      decide (a2 > (60 : Int)) = false,
      0 ≤ a1,
      a1 < ((a0).size : Int),
      ((bt a0 a1) == (46 : Int)) = false,
      0 ≤ a1,
      a1 < ((a0).size : Int),
      ((bt a0 a1) != (40 : Int)) = false,
      SC cfg.P i_spec_trEnd [.s (.v .str a0), .s (.v (.int .i64) (IntKind.wrap .i64 (a1 + (1 : Int)))), .s (.v (.int .i64) (IntKind.wrap .i64 (a2 + (1 : Int))))] (.s (.v (.int .i64) c1)) [],
      decide (c1 < (0 : Int)) = false,
      SC cfg.P i_spec_trEnd [.s (.v .str a0), .s (.v (.int .i64) c1), .s (.v (.int .i64) (IntKind.wrap .i64 (a2 + (1 : Int))))] (.s (.v (.int .i64) c2)) [],
      decide (c2 < (0 : Int)) = false,
      decide (c2 ≥ ((a0).size : Int)) = true]) (by kernel_rfl) ⟨(decide_eq_false h1), (decide_eq_false h2), h3, h4, (beq_f h5), h3, h4, (bne_f h6), h7, (decide_eq_false h8), h9, (decide_eq_false h10), (decide_eq_true h11), trivial⟩ get_spec_trEnd (by decide)

theorem spec_trEnd_p8 (a0 : ByteArray) (a1 : Int) (a2 : Int) (c1 : Int) (c2 : Int)
    (h1 : ¬ (a1 ≥ ((a0).size : Int)))
    (h2 : ¬ (a2 > (60 : Int)))
    (h3 : 0 ≤ a1)
    (h4 : a1 < ((a0).size : Int))
    (h5 : (bt a0 a1) ≠ (46 : Int))
    (h6 : (bt a0 a1) = (40 : Int))
    (h7 : SC cfg.P i_spec_trEnd [.s (.v .str a0), .s (.v (.int .i64) (IntKind.wrap .i64 (a1 + (1 : Int)))), .s (.v (.int .i64) (IntKind.wrap .i64 (a2 + (1 : Int))))] (.s (.v (.int .i64) c1)) [])
    (h8 : ¬ (c1 < (0 : Int)))
    (h9 : SC cfg.P i_spec_trEnd [.s (.v .str a0), .s (.v (.int .i64) c1), .s (.v (.int .i64) (IntKind.wrap .i64 (a2 + (1 : Int))))] (.s (.v (.int .i64) c2)) [])
    (h10 : ¬ (c2 < (0 : Int)))
    (h11 : ¬ (c2 ≥ ((a0).size : Int)))
    (h12 : 0 ≤ c2)
    (h13 : c2 < ((a0).size : Int))
    (h14 : (bt a0 c2) ≠ (41 : Int)) :
    SC cfg.P i_spec_trEnd [.s (.v .str a0), .s (.v (.int .i64) a1), .s (.v (.int .i64) a2)] (.s (.v (.int .i64) (-1 : Int))) [] :=
  SC_of_run cfgOK (its := [.bool false, .bool false, .bool false, .bool false, .res (.s (.v (.int .i64) c1)) [] [] [], .bool false, .res (.s (.v (.int .i64) c2)) [] [] [], .bool false, .bool false, .bool true])
    (ps := [decide (a1 ≥ ((a0).size : Int)) = false,
      decide (a2 > (60 : Int)) = false,
      0 ≤ a1,
      a1 < ((a0).size : Int),
      ((bt a0 a1) == (46 : Int)) = false,
      0 ≤ a1,
      a1 < ((a0).size : Int),
      ((bt a0 a1) != (40 : Int)) = false,
      SC cfg.P i_spec_trEnd [.s (.v .str a0), .s (.v (.int .i64) (IntKind.wrap .i64 (a1 + (1 : Int)))), .s (.v (.int .i64) (IntKind.wrap .i64 (a2 + (1 : Int))))] (.s (.v (.int .i64) c1)) [],
      decide (c1 < (0 : Int)) = false,
      SC cfg.P i_spec_trEnd [.s (.v .str a0), .s (.v (.int .i64) c1), .s (.v (.int .i64) (IntKind.wrap .i64 (a2 + (1 : Int))))] (.s (.v (.int .i64) c2)) [],
      decide (c2 < (0 : Int)) = false,
      decide (c2 ≥ ((a0).size : Int)) = false,
      0 ≤ c2,
      c2 < ((a0).size : Int),
      ((bt a0 c2) != (41 : Int)) = true]) (by kernel_rfl) ⟨(decide_eq_false h1), (decide_eq_false h2), h3, h4, (beq_f h5), h3, h4, (bne_f h6), h7, (decide_eq_false h8), h9, (decide_eq_false h10), (decide_eq_false h11), h12, h13, (bne_t h14), trivial⟩ get_spec_trEnd (by decide)

theorem spec_trEnd_p9 (a0 : ByteArray) (a1 : Int) (a2 : Int) (c1 : Int) (c2 : Int)
    (h1 : ¬ (a1 ≥ ((a0).size : Int)))
    (h2 : ¬ (a2 > (60 : Int)))
    (h3 : 0 ≤ a1)
    (h4 : a1 < ((a0).size : Int))
    (h5 : (bt a0 a1) ≠ (46 : Int))
    (h6 : (bt a0 a1) = (40 : Int))
    (h7 : SC cfg.P i_spec_trEnd [.s (.v .str a0), .s (.v (.int .i64) (IntKind.wrap .i64 (a1 + (1 : Int)))), .s (.v (.int .i64) (IntKind.wrap .i64 (a2 + (1 : Int))))] (.s (.v (.int .i64) c1)) [])
    (h8 : ¬ (c1 < (0 : Int)))
    (h9 : SC cfg.P i_spec_trEnd [.s (.v .str a0), .s (.v (.int .i64) c1), .s (.v (.int .i64) (IntKind.wrap .i64 (a2 + (1 : Int))))] (.s (.v (.int .i64) c2)) [])
    (h10 : ¬ (c2 < (0 : Int)))
    (h11 : ¬ (c2 ≥ ((a0).size : Int)))
    (h12 : 0 ≤ c2)
    (h13 : c2 < ((a0).size : Int))
    (h14 : (bt a0 c2) = (41 : Int)) :
    SC cfg.P i_spec_trEnd [.s (.v .str a0), .s (.v (.int .i64) a1), .s (.v (.int .i64) a2)] (.s (.v (.int .i64) (IntKind.wrap .i64 (c2 + (1 : Int))))) [] :=
  SC_of_run cfgOK (its := [.bool false, .bool false, .bool false, .bool false, .res (.s (.v (.int .i64) c1)) [] [] [], .bool false, .res (.s (.v (.int .i64) c2)) [] [] [], .bool false, .bool false, .bool false])
    (ps := [decide (a1 ≥ ((a0).size : Int)) = false,
      decide (a2 > (60 : Int)) = false,
      0 ≤ a1,
      a1 < ((a0).size : Int),
      ((bt a0 a1) == (46 : Int)) = false,
      0 ≤ a1,
      a1 < ((a0).size : Int),
      ((bt a0 a1) != (40 : Int)) = false,
      SC cfg.P i_spec_trEnd [.s (.v .str a0), .s (.v (.int .i64) (IntKind.wrap .i64 (a1 + (1 : Int)))), .s (.v (.int .i64) (IntKind.wrap .i64 (a2 + (1 : Int))))] (.s (.v (.int .i64) c1)) [],
      decide (c1 < (0 : Int)) = false,
      SC cfg.P i_spec_trEnd [.s (.v .str a0), .s (.v (.int .i64) c1), .s (.v (.int .i64) (IntKind.wrap .i64 (a2 + (1 : Int))))] (.s (.v (.int .i64) c2)) [],
      decide (c2 < (0 : Int)) = false,
      decide (c2 ≥ ((a0).size : Int)) = false,
      0 ≤ c2,
      c2 < ((a0).size : Int),
      ((bt a0 c2) != (41 : Int)) = false]) (by kernel_rfl) ⟨(decide_eq_false h1), (decide_eq_false h2), h3, h4, (beq_f h5), h3, h4, (bne_f h6), h7, (decide_eq_false h8), h9, (decide_eq_false h10), (decide_eq_false h11), h12, h13, (bne_f h14), trivial⟩ get_spec_trEnd (by decide)

/-! ### spec_trLeaf -/


theorem spec_trLeaf_p1 (a0 : ByteArray)
    (h1 : a0 = (⟨#[46]⟩ : ByteArray)) :
    SC cfg.P i_spec_trLeaf [.s (.v .str a0)] (.s (.v .bool true)) [] :=
  SC_of_run cfgOK (its := [.bool true])
    (ps := [((a0).toList == ((⟨#[46]⟩ : ByteArray)).toList) = true]) (by kernel_rfl) ⟨(seq_t h1), trivial⟩ get_spec_trLeaf (by decide)

theorem spec_trLeaf_p2 (a0 : ByteArray)
    (h1 : a0 ≠ (⟨#[46]⟩ : ByteArray)) :
    SC cfg.P i_spec_trLeaf [.s (.v .str a0)] (.s (.v .bool false)) [] :=
  SC_of_run cfgOK (its := [.bool false])
    (ps := [((a0).toList == ((⟨#[46]⟩ : ByteArray)).toList) = false]) (by kernel_rfl) ⟨(seq_f h1), trivial⟩ get_spec_trLeaf (by decide)

/-! ### spec_trSides -/


theorem spec_trSides_p1 (a0 : ByteArray) (c1 : Int)
    (h1 : SC cfg.P i_spec_trEnd [.s (.v .str a0), .s (.v (.int .i64) (1 : Int)), .s (.v (.int .i64) (0 : Int))] (.s (.v (.int .i64) c1)) [])
    (h2 : (1 : Int) ≤ c1)
    (h3 : c1 ≤ ((a0).size : Int))
    (h4 : 0 ≤ c1)
    (h5 : c1 ≤ (IntKind.wrap .i64 (((a0).size : Int) - (1 : Int))))
    (h6 : (IntKind.wrap .i64 (((a0).size : Int) - (1 : Int))) ≤ ((a0).size : Int)) :
    SC cfg.P i_spec_trSides [.s (.v .str a0)] (.tup [.v .str (ByteArray.extract a0 ((1 : Int)).toNat (c1).toNat), .v .str (ByteArray.extract a0 (c1).toNat ((IntKind.wrap .i64 (((a0).size : Int) - (1 : Int)))).toNat)]) [] :=
  SC_of_run cfgOK (its := [.res (.s (.v (.int .i64) c1)) [] [] []])
    (ps := [SC cfg.P i_spec_trEnd [.s (.v .str a0), .s (.v (.int .i64) (1 : Int)), .s (.v (.int .i64) (0 : Int))] (.s (.v (.int .i64) c1)) [],
      0 ≤ (1 : Int),
      (1 : Int) ≤ c1,
      c1 ≤ ((a0).size : Int),
      0 ≤ c1,
      c1 ≤ (IntKind.wrap .i64 (((a0).size : Int) - (1 : Int))),
      (IntKind.wrap .i64 (((a0).size : Int) - (1 : Int))) ≤ ((a0).size : Int)]) (by kernel_rfl) ⟨h1, (by decide), h2, h3, h4, h5, h6, trivial⟩ get_spec_trSides (by decide)

/-! ### spec_lnLeft -/


theorem spec_lnLeft_p1 (a0 : ByteArray)
    (h1 : SC cfg.P i_spec_trLeaf [.s (.v .str a0)] (.s (.v .bool true)) []) :
    SC cfg.P i_spec_lnLeft [.s (.v .str a0)] (.s (.own t_string .str ([] : List ByteArray))) [] :=
  SC_of_run cfgOK (its := [.res (.s (.v .bool true)) [] [] []])
    (ps := [SC cfg.P i_spec_trLeaf [.s (.v .str a0)] (.s (.v .bool true)) []]) (by kernel_rfl) ⟨h1, trivial⟩ get_spec_lnLeft (by decide)

theorem spec_lnLeft_p2 (a0 : ByteArray) (c2a : ByteArray) (c2b : ByteArray) (c3 : (List ByteArray)) (c4 : (List ByteArray))
    (h1 : SC cfg.P i_spec_trLeaf [.s (.v .str a0)] (.s (.v .bool false)) [])
    (h2 : SC cfg.P i_spec_trSides [.s (.v .str a0)] (.tup [.v .str c2a, .v .str c2b]) [])
    (h3 : SC cfg.P i_spec_lnLeft [.s (.v .str c2a)] (.s (.own t_string .str c3)) [])
    (h4 : sizeOK (List.length c3 + List.length ([(⟨#[76, 76]⟩ : ByteArray)] : List ByteArray)))
    (h5 : SC cfg.P i_spec_lnInner [.s (.v .str c2b)] (.s (.own t_string .str c4)) [])
    (h6 : sizeOK (List.length (c3 ++ ([(⟨#[76, 76]⟩ : ByteArray)] : List ByteArray)) + List.length c4)) :
    SC cfg.P i_spec_lnLeft [.s (.v .str a0)] (.s (.own t_string .str ((c3 ++ ([(⟨#[76, 76]⟩ : ByteArray)] : List ByteArray)) ++ c4))) [] :=
  SC_of_run cfgOK (its := [.res (.s (.v .bool false)) [] [] [], .res (.tup [.v .str c2a, .v .str c2b]) [] [] [], .res (.s (.own t_string .str c3)) [] [] [13], .res (.s (.own t_string .str c4)) [] [] [17]])
    (ps := [SC cfg.P i_spec_trLeaf [.s (.v .str a0)] (.s (.v .bool false)) [],
      SC cfg.P i_spec_trSides [.s (.v .str a0)] (.tup [.v .str c2a, .v .str c2b]) [],
      SC cfg.P i_spec_lnLeft [.s (.v .str c2a)] (.s (.own t_string .str c3)) [],
      sizeOK (List.length c3 + List.length ([(⟨#[76, 76]⟩ : ByteArray)] : List ByteArray)),
      SC cfg.P i_spec_lnInner [.s (.v .str c2b)] (.s (.own t_string .str c4)) [],
      sizeOK (List.length (c3 ++ ([(⟨#[76, 76]⟩ : ByteArray)] : List ByteArray)) + List.length c4)]) (by kernel_rfl) ⟨h1, h2, h3, h4, h5, h6, trivial⟩ get_spec_lnLeft (by decide)

/-! ### spec_lnRight -/


theorem spec_lnRight_p1 (a0 : ByteArray)
    (h1 : SC cfg.P i_spec_trLeaf [.s (.v .str a0)] (.s (.v .bool true)) []) :
    SC cfg.P i_spec_lnRight [.s (.v .str a0)] (.s (.own t_string .str ([] : List ByteArray))) [] :=
  SC_of_run cfgOK (its := [.res (.s (.v .bool true)) [] [] []])
    (ps := [SC cfg.P i_spec_trLeaf [.s (.v .str a0)] (.s (.v .bool true)) []]) (by kernel_rfl) ⟨h1, trivial⟩ get_spec_lnRight (by decide)

theorem spec_lnRight_p2 (a0 : ByteArray) (c2a : ByteArray) (c2b : ByteArray) (c3 : (List ByteArray)) (c4 : (List ByteArray))
    (h1 : SC cfg.P i_spec_trLeaf [.s (.v .str a0)] (.s (.v .bool false)) [])
    (h2 : SC cfg.P i_spec_trSides [.s (.v .str a0)] (.tup [.v .str c2a, .v .str c2b]) [])
    (h3 : SC cfg.P i_spec_lnInner [.s (.v .str c2a)] (.s (.own t_string .str c3)) [])
    (h4 : sizeOK (List.length c3 + List.length ([(⟨#[82]⟩ : ByteArray)] : List ByteArray)))
    (h5 : SC cfg.P i_spec_lnRight [.s (.v .str c2b)] (.s (.own t_string .str c4)) [])
    (h6 : sizeOK (List.length (c3 ++ ([(⟨#[82]⟩ : ByteArray)] : List ByteArray)) + List.length c4)) :
    SC cfg.P i_spec_lnRight [.s (.v .str a0)] (.s (.own t_string .str ((c3 ++ ([(⟨#[82]⟩ : ByteArray)] : List ByteArray)) ++ c4))) [] :=
  SC_of_run cfgOK (its := [.res (.s (.v .bool false)) [] [] [], .res (.tup [.v .str c2a, .v .str c2b]) [] [] [], .res (.s (.own t_string .str c3)) [] [] [13], .res (.s (.own t_string .str c4)) [] [] [17]])
    (ps := [SC cfg.P i_spec_trLeaf [.s (.v .str a0)] (.s (.v .bool false)) [],
      SC cfg.P i_spec_trSides [.s (.v .str a0)] (.tup [.v .str c2a, .v .str c2b]) [],
      SC cfg.P i_spec_lnInner [.s (.v .str c2a)] (.s (.own t_string .str c3)) [],
      sizeOK (List.length c3 + List.length ([(⟨#[82]⟩ : ByteArray)] : List ByteArray)),
      SC cfg.P i_spec_lnRight [.s (.v .str c2b)] (.s (.own t_string .str c4)) [],
      sizeOK (List.length (c3 ++ ([(⟨#[82]⟩ : ByteArray)] : List ByteArray)) + List.length c4)]) (by kernel_rfl) ⟨h1, h2, h3, h4, h5, h6, trivial⟩ get_spec_lnRight (by decide)

/-! ### impl_read -/


theorem impl_read_p1 (a0 : ByteArray)
    (h1 : a0 = (⟨#[]⟩ : ByteArray)) :
    SC cfg.P i_impl_read [.s (.v .str a0)] (.tup [.v .tree Tr.leaf, .v .str (⟨#[]⟩ : ByteArray), .v .bool false]) [] :=
  SC_of_run cfgOK (its := [.bool true])
    (ps := [((a0).toList == ((⟨#[]⟩ : ByteArray)).toList) = true]) (by kernel_rfl) ⟨(seq_t h1), trivial⟩ get_impl_read (by decide)

theorem impl_read_p2 (a0 : ByteArray)
    (h1 : a0 ≠ (⟨#[]⟩ : ByteArray))
    (h2 : (0 : Int) < ((a0).size : Int))
    (h3 : (bt a0 (0 : Int)) = (46 : Int))
    (h4 : (1 : Int) ≤ ((a0).size : Int)) :
    SC cfg.P i_impl_read [.s (.v .str a0)] (.tup [.v .tree Tr.leaf, .v .str (ByteArray.extract a0 ((1 : Int)).toNat (((a0).size : Int)).toNat), .v .bool true]) [] :=
  SC_of_run cfgOK (its := [.bool false, .bool true])
    (ps := [((a0).toList == ((⟨#[]⟩ : ByteArray)).toList) = false,
      0 ≤ (0 : Int),
      (0 : Int) < ((a0).size : Int),
      ((bt a0 (0 : Int)) == (46 : Int)) = true,
      0 ≤ (1 : Int),
      (1 : Int) ≤ ((a0).size : Int)]) (by kernel_rfl) ⟨(seq_f h1), (by decide), h2, (beq_t h3), (by decide), h4, trivial⟩ get_impl_read (by decide)

theorem impl_read_p3 (a0 : ByteArray)
    (h1 : a0 ≠ (⟨#[]⟩ : ByteArray))
    (h2 : (0 : Int) < ((a0).size : Int))
    (h3 : (bt a0 (0 : Int)) ≠ (46 : Int))
    (h4 : (bt a0 (0 : Int)) ≠ (40 : Int)) :
    SC cfg.P i_impl_read [.s (.v .str a0)] (.tup [.v .tree Tr.leaf, .v .str (⟨#[]⟩ : ByteArray), .v .bool false]) [] :=
  SC_of_run cfgOK (its := [.bool false, .bool false, .bool true])
    (ps := [((a0).toList == ((⟨#[]⟩ : ByteArray)).toList) = false,
      0 ≤ (0 : Int),
      (0 : Int) < ((a0).size : Int),
      ((bt a0 (0 : Int)) == (46 : Int)) = false,
      0 ≤ (0 : Int),
      (0 : Int) < ((a0).size : Int),
      ((bt a0 (0 : Int)) != (40 : Int)) = true]) (by kernel_rfl) ⟨(seq_f h1), (by decide), h2, (beq_f h3), (by decide), h2, (bne_t h4), trivial⟩ get_impl_read (by decide)

theorem impl_read_p4 (a0 : ByteArray) (c1a : Tr) (c1b : ByteArray) (c2a : Tr) (c2b : ByteArray)
    (h1 : a0 ≠ (⟨#[]⟩ : ByteArray))
    (h2 : (0 : Int) < ((a0).size : Int))
    (h3 : (bt a0 (0 : Int)) ≠ (46 : Int))
    (h4 : (bt a0 (0 : Int)) = (40 : Int))
    (h5 : (1 : Int) ≤ ((a0).size : Int))
    (h6 : SC cfg.P i_impl_read [.s (.v .str (ByteArray.extract a0 ((1 : Int)).toNat (((a0).size : Int)).toNat))] (.tup [.v .tree c1a, .v .str c1b, .v .bool true]) [])
    (h7 : SC cfg.P i_impl_read [.s (.v .str c1b)] (.tup [.v .tree c2a, .v .str c2b, .v .bool true]) [])
    (h8 : c2b = (⟨#[]⟩ : ByteArray)) :
    SC cfg.P i_impl_read [.s (.v .str a0)] (.tup [.v .tree Tr.leaf, .v .str (⟨#[]⟩ : ByteArray), .v .bool false]) [] :=
  SC_of_run cfgOK (its := [.bool false, .bool false, .bool false, .res (.tup [.v .tree c1a, .v .str c1b, .v .bool true]) [] [] [], .res (.tup [.v .tree c2a, .v .str c2b, .v .bool true]) [] [] [], .bool true])
    (ps := [((a0).toList == ((⟨#[]⟩ : ByteArray)).toList) = false,
      0 ≤ (0 : Int),
      (0 : Int) < ((a0).size : Int),
      ((bt a0 (0 : Int)) == (46 : Int)) = false,
      0 ≤ (0 : Int),
      (0 : Int) < ((a0).size : Int),
      ((bt a0 (0 : Int)) != (40 : Int)) = false,
      0 ≤ (1 : Int),
      (1 : Int) ≤ ((a0).size : Int),
      SC cfg.P i_impl_read [.s (.v .str (ByteArray.extract a0 ((1 : Int)).toNat (((a0).size : Int)).toNat))] (.tup [.v .tree c1a, .v .str c1b, .v .bool true]) [],
      SC cfg.P i_impl_read [.s (.v .str c1b)] (.tup [.v .tree c2a, .v .str c2b, .v .bool true]) [],
      ((c2b).toList == ((⟨#[]⟩ : ByteArray)).toList) = true]) (by kernel_rfl) ⟨(seq_f h1), (by decide), h2, (beq_f h3), (by decide), h2, (bne_f h4), (by decide), h5, h6, h7, (seq_t h8), trivial⟩ get_impl_read (by decide)

theorem impl_read_p5 (a0 : ByteArray) (c1a : Tr) (c1b : ByteArray) (c2a : Tr) (c2b : ByteArray)
    (h1 : a0 ≠ (⟨#[]⟩ : ByteArray))
    (h2 : (0 : Int) < ((a0).size : Int))
    (h3 : (bt a0 (0 : Int)) ≠ (46 : Int))
    (h4 : (bt a0 (0 : Int)) = (40 : Int))
    (h5 : (1 : Int) ≤ ((a0).size : Int))
    (h6 : SC cfg.P i_impl_read [.s (.v .str (ByteArray.extract a0 ((1 : Int)).toNat (((a0).size : Int)).toNat))] (.tup [.v .tree c1a, .v .str c1b, .v .bool true]) [])
    (h7 : SC cfg.P i_impl_read [.s (.v .str c1b)] (.tup [.v .tree c2a, .v .str c2b, .v .bool true]) [])
    (h8 : c2b ≠ (⟨#[]⟩ : ByteArray))
    (h9 : (0 : Int) < ((c2b).size : Int))
    (h10 : (bt c2b (0 : Int)) ≠ (41 : Int)) :
    SC cfg.P i_impl_read [.s (.v .str a0)] (.tup [.v .tree Tr.leaf, .v .str (⟨#[]⟩ : ByteArray), .v .bool false]) [] :=
  SC_of_run cfgOK (its := [.bool false, .bool false, .bool false, .res (.tup [.v .tree c1a, .v .str c1b, .v .bool true]) [] [] [], .res (.tup [.v .tree c2a, .v .str c2b, .v .bool true]) [] [] [], .bool false, .bool true])
    (ps := [((a0).toList == ((⟨#[]⟩ : ByteArray)).toList) = false,
      0 ≤ (0 : Int),
      (0 : Int) < ((a0).size : Int),
      ((bt a0 (0 : Int)) == (46 : Int)) = false,
      0 ≤ (0 : Int),
      (0 : Int) < ((a0).size : Int),
      ((bt a0 (0 : Int)) != (40 : Int)) = false,
      0 ≤ (1 : Int),
      (1 : Int) ≤ ((a0).size : Int),
      SC cfg.P i_impl_read [.s (.v .str (ByteArray.extract a0 ((1 : Int)).toNat (((a0).size : Int)).toNat))] (.tup [.v .tree c1a, .v .str c1b, .v .bool true]) [],
      SC cfg.P i_impl_read [.s (.v .str c1b)] (.tup [.v .tree c2a, .v .str c2b, .v .bool true]) [],
      ((c2b).toList == ((⟨#[]⟩ : ByteArray)).toList) = false,
      0 ≤ (0 : Int),
      (0 : Int) < ((c2b).size : Int),
      ((bt c2b (0 : Int)) != (41 : Int)) = true]) (by kernel_rfl) ⟨(seq_f h1), (by decide), h2, (beq_f h3), (by decide), h2, (bne_f h4), (by decide), h5, h6, h7, (seq_f h8), (by decide), h9, (bne_t h10), trivial⟩ get_impl_read (by decide)

theorem impl_read_p6 (a0 : ByteArray) (c1a : Tr) (c1b : ByteArray) (c2a : Tr) (c2b : ByteArray)
    (h1 : a0 ≠ (⟨#[]⟩ : ByteArray))
    (h2 : (0 : Int) < ((a0).size : Int))
    (h3 : (bt a0 (0 : Int)) ≠ (46 : Int))
    (h4 : (bt a0 (0 : Int)) = (40 : Int))
    (h5 : (1 : Int) ≤ ((a0).size : Int))
    (h6 : SC cfg.P i_impl_read [.s (.v .str (ByteArray.extract a0 ((1 : Int)).toNat (((a0).size : Int)).toNat))] (.tup [.v .tree c1a, .v .str c1b, .v .bool true]) [])
    (h7 : SC cfg.P i_impl_read [.s (.v .str c1b)] (.tup [.v .tree c2a, .v .str c2b, .v .bool true]) [])
    (h8 : c2b ≠ (⟨#[]⟩ : ByteArray))
    (h9 : (0 : Int) < ((c2b).size : Int))
    (h10 : (bt c2b (0 : Int)) = (41 : Int))
    (h11 : (1 : Int) ≤ ((c2b).size : Int)) :
    SC cfg.P i_impl_read [.s (.v .str a0)] (.tup [.v .tree (Tr.node c1a c2a), .v .str (ByteArray.extract c2b ((1 : Int)).toNat (((c2b).size : Int)).toNat), .v .bool true]) [] :=
  SC_of_run cfgOK (its := [.bool false, .bool false, .bool false, .res (.tup [.v .tree c1a, .v .str c1b, .v .bool true]) [] [] [], .res (.tup [.v .tree c2a, .v .str c2b, .v .bool true]) [] [] [], .bool false, .bool false])
    (ps := [((a0).toList == ((⟨#[]⟩ : ByteArray)).toList) = false,
      0 ≤ (0 : Int),
      (0 : Int) < ((a0).size : Int),
      ((bt a0 (0 : Int)) == (46 : Int)) = false,
      0 ≤ (0 : Int),
      (0 : Int) < ((a0).size : Int),
      ((bt a0 (0 : Int)) != (40 : Int)) = false,
      0 ≤ (1 : Int),
      (1 : Int) ≤ ((a0).size : Int),
      SC cfg.P i_impl_read [.s (.v .str (ByteArray.extract a0 ((1 : Int)).toNat (((a0).size : Int)).toNat))] (.tup [.v .tree c1a, .v .str c1b, .v .bool true]) [],
      SC cfg.P i_impl_read [.s (.v .str c1b)] (.tup [.v .tree c2a, .v .str c2b, .v .bool true]) [],
      ((c2b).toList == ((⟨#[]⟩ : ByteArray)).toList) = false,
      0 ≤ (0 : Int),
      (0 : Int) < ((c2b).size : Int),
      ((bt c2b (0 : Int)) != (41 : Int)) = false,
      0 ≤ (1 : Int),
      (1 : Int) ≤ ((c2b).size : Int)]) (by kernel_rfl) ⟨(seq_f h1), (by decide), h2, (beq_f h3), (by decide), h2, (bne_f h4), (by decide), h5, h6, h7, (seq_f h8), (by decide), h9, (bne_f h10), (by decide), h11, trivial⟩ get_impl_read (by decide)

theorem impl_read_p7 (a0 : ByteArray) (c1a : Tr) (c1b : ByteArray) (c2a : Tr) (c2b : ByteArray)
    (h1 : a0 ≠ (⟨#[]⟩ : ByteArray))
    (h2 : (0 : Int) < ((a0).size : Int))
    (h3 : (bt a0 (0 : Int)) ≠ (46 : Int))
    (h4 : (bt a0 (0 : Int)) = (40 : Int))
    (h5 : (1 : Int) ≤ ((a0).size : Int))
    (h6 : SC cfg.P i_impl_read [.s (.v .str (ByteArray.extract a0 ((1 : Int)).toNat (((a0).size : Int)).toNat))] (.tup [.v .tree c1a, .v .str c1b, .v .bool true]) [])
    (h7 : SC cfg.P i_impl_read [.s (.v .str c1b)] (.tup [.v .tree c2a, .v .str c2b, .v .bool false]) []) :
    SC cfg.P i_impl_read [.s (.v .str a0)] (.tup [.v .tree Tr.leaf, .v .str (⟨#[]⟩ : ByteArray), .v .bool false]) [] :=
  SC_of_run cfgOK (its := [.bool false, .bool false, .bool false, .res (.tup [.v .tree c1a, .v .str c1b, .v .bool true]) [] [] [], .res (.tup [.v .tree c2a, .v .str c2b, .v .bool false]) [] [] []])
    (ps := [((a0).toList == ((⟨#[]⟩ : ByteArray)).toList) = false,
      0 ≤ (0 : Int),
      (0 : Int) < ((a0).size : Int),
      ((bt a0 (0 : Int)) == (46 : Int)) = false,
      0 ≤ (0 : Int),
      (0 : Int) < ((a0).size : Int),
      ((bt a0 (0 : Int)) != (40 : Int)) = false,
      0 ≤ (1 : Int),
      (1 : Int) ≤ ((a0).size : Int),
      SC cfg.P i_impl_read [.s (.v .str (ByteArray.extract a0 ((1 : Int)).toNat (((a0).size : Int)).toNat))] (.tup [.v .tree c1a, .v .str c1b, .v .bool true]) [],
      SC cfg.P i_impl_read [.s (.v .str c1b)] (.tup [.v .tree c2a, .v .str c2b, .v .bool false]) []]) (by kernel_rfl) ⟨(seq_f h1), (by decide), h2, (beq_f h3), (by decide), h2, (bne_f h4), (by decide), h5, h6, h7, trivial⟩ get_impl_read (by decide)

theorem impl_read_p8 (a0 : ByteArray) (c1a : Tr) (c1b : ByteArray)
    (h1 : a0 ≠ (⟨#[]⟩ : ByteArray))
    (h2 : (0 : Int) < ((a0).size : Int))
    (h3 : (bt a0 (0 : Int)) ≠ (46 : Int))
    (h4 : (bt a0 (0 : Int)) = (40 : Int))
    (h5 : (1 : Int) ≤ ((a0).size : Int))
    (h6 : SC cfg.P i_impl_read [.s (.v .str (ByteArray.extract a0 ((1 : Int)).toNat (((a0).size : Int)).toNat))] (.tup [.v .tree c1a, .v .str c1b, .v .bool false]) []) :
    SC cfg.P i_impl_read [.s (.v .str a0)] (.tup [.v .tree Tr.leaf, .v .str (⟨#[]⟩ : ByteArray), .v .bool false]) [] :=
  SC_of_run cfgOK (its := [.bool false, .bool false, .bool false, .res (.tup [.v .tree c1a, .v .str c1b, .v .bool false]) [] [] []])
    (ps := [((a0).toList == ((⟨#[]⟩ : ByteArray)).toList) = false,
      0 ≤ (0 : Int),
      (0 : Int) < ((a0).size : Int),
      ((bt a0 (0 : Int)) == (46 : Int)) = false,
      0 ≤ (0 : Int),
      (0 : Int) < ((a0).size : Int),
      ((bt a0 (0 : Int)) != (40 : Int)) = false,
      0 ≤ (1 : Int),
      (1 : Int) ≤ ((a0).size : Int),
      SC cfg.P i_impl_read [.s (.v .str (ByteArray.extract a0 ((1 : Int)).toNat (((a0).size : Int)).toNat))] (.tup [.v .tree c1a, .v .str c1b, .v .bool false]) []]) (by kernel_rfl) ⟨(seq_f h1), (by decide), h2, (beq_f h3), (by decide), h2, (bne_f h4), (by decide), h5, h6, trivial⟩ get_impl_read (by decide)

/-! ### impl_node_carets -/


theorem impl_node_carets_p1 
     :
    SC cfg.P i_impl_node_carets [.s (.v .tree Tr.leaf)] (.s (.v (.int .i64) (0 : Int))) [] :=
  SC_of_run cfgOK (its := [.bool true])
    (ps := [Tr.leaf.isLeaf = true]) (by kernel_rfl) ⟨rfl, trivial⟩ get_impl_node_carets (by decide)

theorem impl_node_carets_p2 (a0l : Tr) (a0r : Tr) (c1 : Int) (c2 : Int)
    (h1 : SC cfg.P i_impl_node_carets [.s (.v .tree a0l)] (.s (.v (.int .i64) c1)) [])
    (h2 : SC cfg.P i_impl_node_carets [.s (.v .tree a0r)] (.s (.v (.int .i64) c2)) []) :
    SC cfg.P i_impl_node_carets [.s (.v .tree (Tr.node a0l a0r))] (.s (.v (.int .i64) (IntKind.wrap .i64 ((IntKind.wrap .i64 ((1 : Int) + c1)) + c2)))) [] :=
  SC_of_run cfgOK (its := [.bool false, .res (.s (.v (.int .i64) c1)) [] [] [], .res (.s (.v (.int .i64) c2)) [] [] []])
    (ps := [(Tr.node a0l a0r).isLeaf = false,
      SC cfg.P i_impl_node_carets [.s (.v .tree a0l)] (.s (.v (.int .i64) c1)) [],
      SC cfg.P i_impl_node_carets [.s (.v .tree a0r)] (.s (.v (.int .i64) c2)) []]) (by kernel_rfl) ⟨rfl, h1, h2, trivial⟩ get_impl_node_carets (by decide)

/-! ### impl_node_marks -/


theorem impl_node_marks_p1 (a1 : Int) (a2 : Bool)
     :
    SC cfg.P i_impl_node_marks [.s (.v .tree Tr.leaf), .s (.v (.int .i64) a1), .s (.v .bool a2)] (.s (.own t_impl_mark (.pr (.int .i64) .bool) ([] : List (Int × Bool)))) [] :=
  SC_of_run cfgOK (its := [.bool true])
    (ps := [Tr.leaf.isLeaf = true]) (by kernel_rfl) ⟨rfl, trivial⟩ get_impl_node_marks (by decide)

theorem impl_node_marks_p2 (a0l : Tr) (a1 : Int) (c1 : (List (Int × Bool))) (c2 : (List (Int × Bool)))
    (h1 : a1 = (0 : Int))
    (h2 : SC cfg.P i_impl_node_marks [.s (.v .tree a0l), .s (.v (.int .i64) (0 : Int)), .s (.v .bool false)] (.s (.own t_impl_mark (.pr (.int .i64) .bool) c1)) [])
    (h3 : sizeOK (List.length c1 + List.length ([(a1, true)] : List (Int × Bool))))
    (h4 : SC cfg.P i_impl_node_marks [.s (.v .tree Tr.leaf), .s (.v (.int .i64) (1 : Int)), .s (.v .bool false)] (.s (.own t_impl_mark (.pr (.int .i64) .bool) c2)) [])
    (h5 : sizeOK (List.length (c1 ++ ([(a1, true)] : List (Int × Bool))) + List.length c2)) :
    SC cfg.P i_impl_node_marks [.s (.v .tree (Tr.node a0l Tr.leaf)), .s (.v (.int .i64) a1), .s (.v .bool true)] (.s (.own t_impl_mark (.pr (.int .i64) .bool) ((c1 ++ ([(a1, true)] : List (Int × Bool))) ++ c2))) [] :=
  SC_of_run cfgOK (its := [.bool false, .bool true, .res (.s (.own t_impl_mark (.pr (.int .i64) .bool) c1)) [] [] [24], .bool true, .res (.s (.own t_impl_mark (.pr (.int .i64) .bool) c2)) [] [] [41]])
    (ps := [(Tr.node a0l Tr.leaf).isLeaf = false,
      (a1 == (0 : Int)) = true,
      SC cfg.P i_impl_node_marks [.s (.v .tree a0l), .s (.v (.int .i64) (0 : Int)), .s (.v .bool false)] (.s (.own t_impl_mark (.pr (.int .i64) .bool) c1)) [],
      Tr.leaf.isLeaf = true,
      sizeOK (List.length c1 + List.length ([(a1, true)] : List (Int × Bool))),
      SC cfg.P i_impl_node_marks [.s (.v .tree Tr.leaf), .s (.v (.int .i64) (1 : Int)), .s (.v .bool false)] (.s (.own t_impl_mark (.pr (.int .i64) .bool) c2)) [],
      sizeOK (List.length (c1 ++ ([(a1, true)] : List (Int × Bool))) + List.length c2)]) (by kernel_rfl) ⟨rfl, (beq_t h1), h2, rfl, h3, h4, h5, trivial⟩ get_impl_node_marks (by decide)

theorem impl_node_marks_p3 (a0l : Tr) (a0rl : Tr) (a0rr : Tr) (a1 : Int) (c1 : (List (Int × Bool))) (c2 : (List (Int × Bool)))
    (h1 : a1 = (0 : Int))
    (h2 : SC cfg.P i_impl_node_marks [.s (.v .tree a0l), .s (.v (.int .i64) (0 : Int)), .s (.v .bool false)] (.s (.own t_impl_mark (.pr (.int .i64) .bool) c1)) [])
    (h3 : sizeOK (List.length c1 + List.length ([(a1, false)] : List (Int × Bool))))
    (h4 : SC cfg.P i_impl_node_marks [.s (.v .tree (Tr.node a0rl a0rr)), .s (.v (.int .i64) (1 : Int)), .s (.v .bool false)] (.s (.own t_impl_mark (.pr (.int .i64) .bool) c2)) [])
    (h5 : sizeOK (List.length (c1 ++ ([(a1, false)] : List (Int × Bool))) + List.length c2)) :
    SC cfg.P i_impl_node_marks [.s (.v .tree (Tr.node a0l (Tr.node a0rl a0rr))), .s (.v (.int .i64) a1), .s (.v .bool true)] (.s (.own t_impl_mark (.pr (.int .i64) .bool) ((c1 ++ ([(a1, false)] : List (Int × Bool))) ++ c2))) [] :=
  SC_of_run cfgOK (its := [.bool false, .bool true, .res (.s (.own t_impl_mark (.pr (.int .i64) .bool) c1)) [] [] [24], .bool false, .res (.s (.own t_impl_mark (.pr (.int .i64) .bool) c2)) [] [] [41]])
    (ps := [(Tr.node a0l (Tr.node a0rl a0rr)).isLeaf = false,
      (a1 == (0 : Int)) = true,
      SC cfg.P i_impl_node_marks [.s (.v .tree a0l), .s (.v (.int .i64) (0 : Int)), .s (.v .bool false)] (.s (.own t_impl_mark (.pr (.int .i64) .bool) c1)) [],
      (Tr.node a0rl a0rr).isLeaf = false,
      sizeOK (List.length c1 + List.length ([(a1, false)] : List (Int × Bool))),
      SC cfg.P i_impl_node_marks [.s (.v .tree (Tr.node a0rl a0rr)), .s (.v (.int .i64) (1 : Int)), .s (.v .bool false)] (.s (.own t_impl_mark (.pr (.int .i64) .bool) c2)) [],
      sizeOK (List.length (c1 ++ ([(a1, false)] : List (Int × Bool))) + List.length c2)]) (by kernel_rfl) ⟨rfl, (beq_t h1), h2, rfl, h3, h4, h5, trivial⟩ get_impl_node_marks (by decide)

theorem impl_node_marks_p4 (a0l : Tr) (a1 : Int) (c1 : (List (Int × Bool))) (c2 : (List (Int × Bool)))
    (h1 : a1 = (0 : Int))
    (h2 : a1 = (1 : Int))
    (h3 : SC cfg.P i_impl_node_marks [.s (.v .tree a0l), .s (.v (.int .i64) (0 : Int)), .s (.v .bool false)] (.s (.own t_impl_mark (.pr (.int .i64) .bool) c1)) [])
    (h4 : sizeOK (List.length c1 + List.length ([(a1, true)] : List (Int × Bool))))
    (h5 : SC cfg.P i_impl_node_marks [.s (.v .tree Tr.leaf), .s (.v (.int .i64) (1 : Int)), .s (.v .bool false)] (.s (.own t_impl_mark (.pr (.int .i64) .bool) c2)) [])
    (h6 : sizeOK (List.length (c1 ++ ([(a1, true)] : List (Int × Bool))) + List.length c2)) :
    SC cfg.P i_impl_node_marks [.s (.v .tree (Tr.node a0l Tr.leaf)), .s (.v (.int .i64) a1), .s (.v .bool false)] (.s (.own t_impl_mark (.pr (.int .i64) .bool) ((c1 ++ ([(a1, true)] : List (Int × Bool))) ++ c2))) [] :=
  SC_of_run cfgOK (its := [.bool false, .bool true, .bool true, .res (.s (.own t_impl_mark (.pr (.int .i64) .bool) c1)) [] [] [24], .bool true, .res (.s (.own t_impl_mark (.pr (.int .i64) .bool) c2)) [] [] [41]])
    (ps := [(Tr.node a0l Tr.leaf).isLeaf = false,
      (a1 == (0 : Int)) = true,
      (a1 == (1 : Int)) = true,
      SC cfg.P i_impl_node_marks [.s (.v .tree a0l), .s (.v (.int .i64) (0 : Int)), .s (.v .bool false)] (.s (.own t_impl_mark (.pr (.int .i64) .bool) c1)) [],
      Tr.leaf.isLeaf = true,
      sizeOK (List.length c1 + List.length ([(a1, true)] : List (Int × Bool))),
      SC cfg.P i_impl_node_marks [.s (.v .tree Tr.leaf), .s (.v (.int .i64) (1 : Int)), .s (.v .bool false)] (.s (.own t_impl_mark (.pr (.int .i64) .bool) c2)) [],
      sizeOK (List.length (c1 ++ ([(a1, true)] : List (Int × Bool))) + List.length c2)]) (by kernel_rfl) ⟨rfl, (beq_t h1), (beq_t h2), h3, rfl, h4, h5, h6, trivial⟩ get_impl_node_marks (by decide)

theorem impl_node_marks_p5 (a0l : Tr) (a0rl : Tr) (a0rr : Tr) (a1 : Int) (c1 : (List (Int × Bool))) (c2 : (List (Int × Bool)))
    (h1 : a1 = (0 : Int))
    (h2 : a1 = (1 : Int))
    (h3 : SC cfg.P i_impl_node_marks [.s (.v .tree a0l), .s (.v (.int .i64) (0 : Int)), .s (.v .bool false)] (.s (.own t_impl_mark (.pr (.int .i64) .bool) c1)) [])
    (h4 : sizeOK (List.length c1 + List.length ([(a1, false)] : List (Int × Bool))))
    (h5 : SC cfg.P i_impl_node_marks [.s (.v .tree (Tr.node a0rl a0rr)), .s (.v (.int .i64) (1 : Int)), .s (.v .bool false)] (.s (.own t_impl_mark (.pr (.int .i64) .bool) c2)) [])
    (h6 : sizeOK (List.length (c1 ++ ([(a1, false)] : List (Int × Bool))) + List.length c2)) :
    SC cfg.P i_impl_node_marks [.s (.v .tree (Tr.node a0l (Tr.node a0rl a0rr))), .s (.v (.int .i64) a1), .s (.v .bool false)] (.s (.own t_impl_mark (.pr (.int .i64) .bool) ((c1 ++ ([(a1, false)] : List (Int × Bool))) ++ c2))) [] :=
  SC_of_run cfgOK (its := [.bool false, .bool true, .bool true, .res (.s (.own t_impl_mark (.pr (.int .i64) .bool) c1)) [] [] [24], .bool false, .res (.s (.own t_impl_mark (.pr (.int .i64) .bool) c2)) [] [] [41]])
    (ps := [(Tr.node a0l (Tr.node a0rl a0rr)).isLeaf = false,
      (a1 == (0 : Int)) = true,
      (a1 == (1 : Int)) = true,
      SC cfg.P i_impl_node_marks [.s (.v .tree a0l), .s (.v (.int .i64) (0 : Int)), .s (.v .bool false)] (.s (.own t_impl_mark (.pr (.int .i64) .bool) c1)) [],
      (Tr.node a0rl a0rr).isLeaf = false,
      sizeOK (List.length c1 + List.length ([(a1, false)] : List (Int × Bool))),
      SC cfg.P i_impl_node_marks [.s (.v .tree (Tr.node a0rl a0rr)), .s (.v (.int .i64) (1 : Int)), .s (.v .bool false)] (.s (.own t_impl_mark (.pr (.int .i64) .bool) c2)) [],
      sizeOK (List.length (c1 ++ ([(a1, false)] : List (Int × Bool))) + List.length c2)]) (by kernel_rfl) ⟨rfl, (beq_t h1), (beq_t h2), h3, rfl, h4, h5, h6, trivial⟩ get_impl_node_marks (by decide)

theorem impl_node_marks_p6 (a0l : Tr) (a1 : Int) (c1 : (List (Int × Bool))) (c2 : (List (Int × Bool)))
    (h1 : a1 = (0 : Int))
    (h2 : a1 ≠ (1 : Int))
    (h3 : SC cfg.P i_impl_node_marks [.s (.v .tree a0l), .s (.v (.int .i64) (0 : Int)), .s (.v .bool false)] (.s (.own t_impl_mark (.pr (.int .i64) .bool) c1)) [])
    (h4 : sizeOK (List.length c1 + List.length ([(a1, true)] : List (Int × Bool))))
    (h5 : SC cfg.P i_impl_node_marks [.s (.v .tree Tr.leaf), .s (.v (.int .i64) (2 : Int)), .s (.v .bool false)] (.s (.own t_impl_mark (.pr (.int .i64) .bool) c2)) [])
    (h6 : sizeOK (List.length (c1 ++ ([(a1, true)] : List (Int × Bool))) + List.length c2)) :
    SC cfg.P i_impl_node_marks [.s (.v .tree (Tr.node a0l Tr.leaf)), .s (.v (.int .i64) a1), .s (.v .bool false)] (.s (.own t_impl_mark (.pr (.int .i64) .bool) ((c1 ++ ([(a1, true)] : List (Int × Bool))) ++ c2))) [] :=
  SC_of_run cfgOK (its := [.bool false, .bool true, .bool false, .res (.s (.own t_impl_mark (.pr (.int .i64) .bool) c1)) [] [] [24], .bool true, .res (.s (.own t_impl_mark (.pr (.int .i64) .bool) c2)) [] [] [41]])
    (ps := [(Tr.node a0l Tr.leaf).isLeaf = false,
      (a1 == (0 : Int)) = true,
      (a1 == (1 : Int)) = false,
      SC cfg.P i_impl_node_marks [.s (.v .tree a0l), .s (.v (.int .i64) (0 : Int)), .s (.v .bool false)] (.s (.own t_impl_mark (.pr (.int .i64) .bool) c1)) [],
      Tr.leaf.isLeaf = true,
      sizeOK (List.length c1 + List.length ([(a1, true)] : List (Int × Bool))),
      SC cfg.P i_impl_node_marks [.s (.v .tree Tr.leaf), .s (.v (.int .i64) (2 : Int)), .s (.v .bool false)] (.s (.own t_impl_mark (.pr (.int .i64) .bool) c2)) [],
      sizeOK (List.length (c1 ++ ([(a1, true)] : List (Int × Bool))) + List.length c2)]) (by kernel_rfl) ⟨rfl, (beq_t h1), (beq_f h2), h3, rfl, h4, h5, h6, trivial⟩ get_impl_node_marks (by decide)

theorem impl_node_marks_p7 (a0l : Tr) (a0rl : Tr) (a0rr : Tr) (a1 : Int) (c1 : (List (Int × Bool))) (c2 : (List (Int × Bool)))
    (h1 : a1 = (0 : Int))
    (h2 : a1 ≠ (1 : Int))
    (h3 : SC cfg.P i_impl_node_marks [.s (.v .tree a0l), .s (.v (.int .i64) (0 : Int)), .s (.v .bool false)] (.s (.own t_impl_mark (.pr (.int .i64) .bool) c1)) [])
    (h4 : sizeOK (List.length c1 + List.length ([(a1, false)] : List (Int × Bool))))
    (h5 : SC cfg.P i_impl_node_marks [.s (.v .tree (Tr.node a0rl a0rr)), .s (.v (.int .i64) (2 : Int)), .s (.v .bool false)] (.s (.own t_impl_mark (.pr (.int .i64) .bool) c2)) [])
    (h6 : sizeOK (List.length (c1 ++ ([(a1, false)] : List (Int × Bool))) + List.length c2)) :
    SC cfg.P i_impl_node_marks [.s (.v .tree (Tr.node a0l (Tr.node a0rl a0rr))), .s (.v (.int .i64) a1), .s (.v .bool false)] (.s (.own t_impl_mark (.pr (.int .i64) .bool) ((c1 ++ ([(a1, false)] : List (Int × Bool))) ++ c2))) [] :=
  SC_of_run cfgOK (its := [.bool false, .bool true, .bool false, .res (.s (.own t_impl_mark (.pr (.int .i64) .bool) c1)) [] [] [24], .bool false, .res (.s (.own t_impl_mark (.pr (.int .i64) .bool) c2)) [] [] [41]])
    (ps := [(Tr.node a0l (Tr.node a0rl a0rr)).isLeaf = false,
      (a1 == (0 : Int)) = true,
      (a1 == (1 : Int)) = false,
      SC cfg.P i_impl_node_marks [.s (.v .tree a0l), .s (.v (.int .i64) (0 : Int)), .s (.v .bool false)] (.s (.own t_impl_mark (.pr (.int .i64) .bool) c1)) [],
      (Tr.node a0rl a0rr).isLeaf = false,
      sizeOK (List.length c1 + List.length ([(a1, false)] : List (Int × Bool))),
      SC cfg.P i_impl_node_marks [.s (.v .tree (Tr.node a0rl a0rr)), .s (.v (.int .i64) (2 : Int)), .s (.v .bool false)] (.s (.own t_impl_mark (.pr (.int .i64) .bool) c2)) [],
      sizeOK (List.length (c1 ++ ([(a1, false)] : List (Int × Bool))) + List.length c2)]) (by kernel_rfl) ⟨rfl, (beq_t h1), (beq_f h2), h3, rfl, h4, h5, h6, trivial⟩ get_impl_node_marks (by decide)

theorem impl_node_marks_p8 (a0l : Tr) (a1 : Int) (c1 : (List (Int × Bool))) (c2 : (List (Int × Bool)))
    (h1 : a1 ≠ (0 : Int))
    (h2 : SC cfg.P i_impl_node_marks [.s (.v .tree a0l), .s (.v (.int .i64) (2 : Int)), .s (.v .bool false)] (.s (.own t_impl_mark (.pr (.int .i64) .bool) c1)) [])
    (h3 : sizeOK (List.length c1 + List.length ([(a1, true)] : List (Int × Bool))))
    (h4 : SC cfg.P i_impl_node_marks [.s (.v .tree Tr.leaf), .s (.v (.int .i64) (1 : Int)), .s (.v .bool false)] (.s (.own t_impl_mark (.pr (.int .i64) .bool) c2)) [])
    (h5 : sizeOK (List.length (c1 ++ ([(a1, true)] : List (Int × Bool))) + List.length c2)) :
    SC cfg.P i_impl_node_marks [.s (.v .tree (Tr.node a0l Tr.leaf)), .s (.v (.int .i64) a1), .s (.v .bool true)] (.s (.own t_impl_mark (.pr (.int .i64) .bool) ((c1 ++ ([(a1, true)] : List (Int × Bool))) ++ c2))) [] :=
  SC_of_run cfgOK (its := [.bool false, .bool false, .res (.s (.own t_impl_mark (.pr (.int .i64) .bool) c1)) [] [] [24], .bool true, .res (.s (.own t_impl_mark (.pr (.int .i64) .bool) c2)) [] [] [41]])
    (ps := [(Tr.node a0l Tr.leaf).isLeaf = false,
      (a1 == (0 : Int)) = false,
      SC cfg.P i_impl_node_marks [.s (.v .tree a0l), .s (.v (.int .i64) (2 : Int)), .s (.v .bool false)] (.s (.own t_impl_mark (.pr (.int .i64) .bool) c1)) [],
      Tr.leaf.isLeaf = true,
      sizeOK (List.length c1 + List.length ([(a1, true)] : List (Int × Bool))),
      SC cfg.P i_impl_node_marks [.s (.v .tree Tr.leaf), .s (.v (.int .i64) (1 : Int)), .s (.v .bool false)] (.s (.own t_impl_mark (.pr (.int .i64) .bool) c2)) [],
      sizeOK (List.length (c1 ++ ([(a1, true)] : List (Int × Bool))) + List.length c2)]) (by kernel_rfl) ⟨rfl, (beq_f h1), h2, rfl, h3, h4, h5, trivial⟩ get_impl_node_marks (by decide)

theorem impl_node_marks_p9 (a0l : Tr) (a0rl : Tr) (a0rr : Tr) (a1 : Int) (c1 : (List (Int × Bool))) (c2 : (List (Int × Bool)))
    (h1 : a1 ≠ (0 : Int))
    (h2 : SC cfg.P i_impl_node_marks [.s (.v .tree a0l), .s (.v (.int .i64) (2 : Int)), .s (.v .bool false)] (.s (.own t_impl_mark (.pr (.int .i64) .bool) c1)) [])
    (h3 : sizeOK (List.length c1 + List.length ([(a1, false)] : List (Int × Bool))))
    (h4 : SC cfg.P i_impl_node_marks [.s (.v .tree (Tr.node a0rl a0rr)), .s (.v (.int .i64) (1 : Int)), .s (.v .bool false)] (.s (.own t_impl_mark (.pr (.int .i64) .bool) c2)) [])
    (h5 : sizeOK (List.length (c1 ++ ([(a1, false)] : List (Int × Bool))) + List.length c2)) :
    SC cfg.P i_impl_node_marks [.s (.v .tree (Tr.node a0l (Tr.node a0rl a0rr))), .s (.v (.int .i64) a1), .s (.v .bool true)] (.s (.own t_impl_mark (.pr (.int .i64) .bool) ((c1 ++ ([(a1, false)] : List (Int × Bool))) ++ c2))) [] :=
  SC_of_run cfgOK (its := [.bool false, .bool false, .res (.s (.own t_impl_mark (.pr (.int .i64) .bool) c1)) [] [] [24], .bool false, .res (.s (.own t_impl_mark (.pr (.int .i64) .bool) c2)) [] [] [41]])
    (ps := [(Tr.node a0l (Tr.node a0rl a0rr)).isLeaf = false,
      (a1 == (0 : Int)) = false,
      SC cfg.P i_impl_node_marks [.s (.v .tree a0l), .s (.v (.int .i64) (2 : Int)), .s (.v .bool false)] (.s (.own t_impl_mark (.pr (.int .i64) .bool) c1)) [],
      (Tr.node a0rl a0rr).isLeaf = false,
      sizeOK (List.length c1 + List.length ([(a1, false)] : List (Int × Bool))),
      SC cfg.P i_impl_node_marks [.s (.v .tree (Tr.node a0rl a0rr)), .s (.v (.int .i64) (1 : Int)), .s (.v .bool false)] (.s (.own t_impl_mark (.pr (.int .i64) .bool) c2)) [],
      sizeOK (List.length (c1 ++ ([(a1, false)] : List (Int × Bool))) + List.length c2)]) (by kernel_rfl) ⟨rfl, (beq_f h1), h2, rfl, h3, h4, h5, trivial⟩ get_impl_node_marks (by decide)

theorem impl_node_marks_p10 (a0l : Tr) (a1 : Int) (c1 : (List (Int × Bool))) (c2 : (List (Int × Bool)))
    (h1 : a1 ≠ (0 : Int))
    (h2 : a1 = (1 : Int))
    (h3 : SC cfg.P i_impl_node_marks [.s (.v .tree a0l), .s (.v (.int .i64) (2 : Int)), .s (.v .bool false)] (.s (.own t_impl_mark (.pr (.int .i64) .bool) c1)) [])
    (h4 : sizeOK (List.length c1 + List.length ([(a1, true)] : List (Int × Bool))))
    (h5 : SC cfg.P i_impl_node_marks [.s (.v .tree Tr.leaf), .s (.v (.int .i64) (1 : Int)), .s (.v .bool false)] (.s (.own t_impl_mark (.pr (.int .i64) .bool) c2)) [])
    (h6 : sizeOK (List.length (c1 ++ ([(a1, true)] : List (Int × Bool))) + List.length c2)) :
    SC cfg.P i_impl_node_marks [.s (.v .tree (Tr.node a0l Tr.leaf)), .s (.v (.int .i64) a1), .s (.v .bool false)] (.s (.own t_impl_mark (.pr (.int .i64) .bool) ((c1 ++ ([(a1, true)] : List (Int × Bool))) ++ c2))) [] :=
  SC_of_run cfgOK (its := [.bool false, .bool false, .bool true, .res (.s (.own t_impl_mark (.pr (.int .i64) .bool) c1)) [] [] [24], .bool true, .res (.s (.own t_impl_mark (.pr (.int .i64) .bool) c2)) [] [] [41]])
    (ps := [(Tr.node a0l Tr.leaf).isLeaf = false,
      (a1 == (0 : Int)) = false,
      (a1 == (1 : Int)) = true,
      SC cfg.P i_impl_node_marks [.s (.v .tree a0l), .s (.v (.int .i64) (2 : Int)), .s (.v .bool false)] (.s (.own t_impl_mark (.pr (.int .i64) .bool) c1)) [],
      Tr.leaf.isLeaf = true,
      sizeOK (List.length c1 + List.length ([(a1, true)] : List (Int × Bool))),
      SC cfg.P i_impl_node_marks [.s (.v .tree Tr.leaf), .s (.v (.int .i64) (1 : Int)), .s (.v .bool false)] (.s (.own t_impl_mark (.pr (.int .i64) .bool) c2)) [],
      sizeOK (List.length (c1 ++ ([(a1, true)] : List (Int × Bool))) + List.length c2)]) (by kernel_rfl) ⟨rfl, (beq_f h1), (beq_t h2), h3, rfl, h4, h5, h6, trivial⟩ get_impl_node_marks (by decide)

theorem impl_node_marks_p11 (a0l : Tr) (a0rl : Tr) (a0rr : Tr) (a1 : Int) (c1 : (List (Int × Bool))) (c2 : (List (Int × Bool)))
    (h1 : a1 ≠ (0 : Int))
    (h2 : a1 = (1 : Int))
    (h3 : SC cfg.P i_impl_node_marks [.s (.v .tree a0l), .s (.v (.int .i64) (2 : Int)), .s (.v .bool false)] (.s (.own t_impl_mark (.pr (.int .i64) .bool) c1)) [])
    (h4 : sizeOK (List.length c1 + List.length ([(a1, false)] : List (Int × Bool))))
    (h5 : SC cfg.P i_impl_node_marks [.s (.v .tree (Tr.node a0rl a0rr)), .s (.v (.int .i64) (1 : Int)), .s (.v .bool false)] (.s (.own t_impl_mark (.pr (.int .i64) .bool) c2)) [])
    (h6 : sizeOK (List.length (c1 ++ ([(a1, false)] : List (Int × Bool))) + List.length c2)) :
    SC cfg.P i_impl_node_marks [.s (.v .tree (Tr.node a0l (Tr.node a0rl a0rr))), .s (.v (.int .i64) a1), .s (.v .bool false)] (.s (.own t_impl_mark (.pr (.int .i64) .bool) ((c1 ++ ([(a1, false)] : List (Int × Bool))) ++ c2))) [] :=
  SC_of_run cfgOK (its := [.bool false, .bool false, .bool true, .res (.s (.own t_impl_mark (.pr (.int .i64) .bool) c1)) [] [] [24], .bool false, .res (.s (.own t_impl_mark (.pr (.int .i64) .bool) c2)) [] [] [41]])
    (ps := [(Tr.node a0l (Tr.node a0rl a0rr)).isLeaf = false,
      (a1 == (0 : Int)) = false,
      (a1 == (1 : Int)) = true,
      SC cfg.P i_impl_node_marks [.s (.v .tree a0l), .s (.v (.int .i64) (2 : Int)), .s (.v .bool false)] (.s (.own t_impl_mark (.pr (.int .i64) .bool) c1)) [],
      (Tr.node a0rl a0rr).isLeaf = false,
      sizeOK (List.length c1 + List.length ([(a1, false)] : List (Int × Bool))),
      SC cfg.P i_impl_node_marks [.s (.v .tree (Tr.node a0rl a0rr)), .s (.v (.int .i64) (1 : Int)), .s (.v .bool false)] (.s (.own t_impl_mark (.pr (.int .i64) .bool) c2)) [],
      sizeOK (List.length (c1 ++ ([(a1, false)] : List (Int × Bool))) + List.length c2)]) (by kernel_rfl) ⟨rfl, (beq_f h1), (beq_t h2), h3, rfl, h4, h5, h6, trivial⟩ get_impl_node_marks (by decide)

theorem impl_node_marks_p12 (a0l : Tr) (a1 : Int) (c1 : (List (Int × Bool))) (c2 : (List (Int × Bool)))
    (h1 : a1 ≠ (0 : Int))
    (h2 : a1 ≠ (1 : Int))
    (h3 : SC cfg.P i_impl_node_marks [.s (.v .tree a0l), .s (.v (.int .i64) (2 : Int)), .s (.v .bool false)] (.s (.own t_impl_mark (.pr (.int .i64) .bool) c1)) [])
    (h4 : sizeOK (List.length c1 + List.length ([(a1, true)] : List (Int × Bool))))
    (h5 : SC cfg.P i_impl_node_marks [.s (.v .tree Tr.leaf), .s (.v (.int .i64) (2 : Int)), .s (.v .bool false)] (.s (.own t_impl_mark (.pr (.int .i64) .bool) c2)) [])
    (h6 : sizeOK (List.length (c1 ++ ([(a1, true)] : List (Int × Bool))) + List.length c2)) :
    SC cfg.P i_impl_node_marks [.s (.v .tree (Tr.node a0l Tr.leaf)), .s (.v (.int .i64) a1), .s (.v .bool false)] (.s (.own t_impl_mark (.pr (.int .i64) .bool) ((c1 ++ ([(a1, true)] : List (Int × Bool))) ++ c2))) [] :=
  SC_of_run cfgOK (its := [.bool false, .bool false, .bool false, .res (.s (.own t_impl_mark (.pr (.int .i64) .bool) c1)) [] [] [24], .bool true, .res (.s (.own t_impl_mark (.pr (.int .i64) .bool) c2)) [] [] [41]])
    (ps := [(Tr.node a0l Tr.leaf).isLeaf = false,
      (a1 == (0 : Int)) = false,
      (a1 == (1 : Int)) = false,
      SC cfg.P i_impl_node_marks [.s (.v .tree a0l), .s (.v (.int .i64) (2 : Int)), .s (.v .bool false)] (.s (.own t_impl_mark (.pr (.int .i64) .bool) c1)) [],
      Tr.leaf.isLeaf = true,
      sizeOK (List.length c1 + List.length ([(a1, true)] : List (Int × Bool))),
      SC cfg.P i_impl_node_marks [.s (.v .tree Tr.leaf), .s (.v (.int .i64) (2 : Int)), .s (.v .bool false)] (.s (.own t_impl_mark (.pr (.int .i64) .bool) c2)) [],
      sizeOK (List.length (c1 ++ ([(a1, true)] : List (Int × Bool))) + List.length c2)]) (by kernel_rfl) ⟨rfl, (beq_f h1), (beq_f h2), h3, rfl, h4, h5, h6, trivial⟩ get_impl_node_marks (by decide)

theorem impl_node_marks_p13 (a0l : Tr) (a0rl : Tr) (a0rr : Tr) (a1 : Int) (c1 : (List (Int × Bool))) (c2 : (List (Int × Bool)))
    (h1 : a1 ≠ (0 : Int))
    (h2 : a1 ≠ (1 : Int))
    (h3 : SC cfg.P i_impl_node_marks [.s (.v .tree a0l), .s (.v (.int .i64) (2 : Int)), .s (.v .bool false)] (.s (.own t_impl_mark (.pr (.int .i64) .bool) c1)) [])
    (h4 : sizeOK (List.length c1 + List.length ([(a1, false)] : List (Int × Bool))))
    (h5 : SC cfg.P i_impl_node_marks [.s (.v .tree (Tr.node a0rl a0rr)), .s (.v (.int .i64) (2 : Int)), .s (.v .bool false)] (.s (.own t_impl_mark (.pr (.int .i64) .bool) c2)) [])
    (h6 : sizeOK (List.length (c1 ++ ([(a1, false)] : List (Int × Bool))) + List.length c2)) :
    SC cfg.P i_impl_node_marks [.s (.v .tree (Tr.node a0l (Tr.node a0rl a0rr))), .s (.v (.int .i64) a1), .s (.v .bool false)] (.s (.own t_impl_mark (.pr (.int .i64) .bool) ((c1 ++ ([(a1, false)] : List (Int × Bool))) ++ c2))) [] :=
  SC_of_run cfgOK (its := [.bool false, .bool false, .bool false, .res (.s (.own t_impl_mark (.pr (.int .i64) .bool) c1)) [] [] [24], .bool false, .res (.s (.own t_impl_mark (.pr (.int .i64) .bool) c2)) [] [] [41]])
    (ps := [(Tr.node a0l (Tr.node a0rl a0rr)).isLeaf = false,
      (a1 == (0 : Int)) = false,
      (a1 == (1 : Int)) = false,
      SC cfg.P i_impl_node_marks [.s (.v .tree a0l), .s (.v (.int .i64) (2 : Int)), .s (.v .bool false)] (.s (.own t_impl_mark (.pr (.int .i64) .bool) c1)) [],
      (Tr.node a0rl a0rr).isLeaf = false,
      sizeOK (List.length c1 + List.length ([(a1, false)] : List (Int × Bool))),
      SC cfg.P i_impl_node_marks [.s (.v .tree (Tr.node a0rl a0rr)), .s (.v (.int .i64) (2 : Int)), .s (.v .bool false)] (.s (.own t_impl_mark (.pr (.int .i64) .bool) c2)) [],
      sizeOK (List.length (c1 ++ ([(a1, false)] : List (Int × Bool))) + List.length c2)]) (by kernel_rfl) ⟨rfl, (beq_f h1), (beq_f h2), h3, rfl, h4, h5, h6, trivial⟩ get_impl_node_marks (by decide)

/-! ### slices_ContainsFunc -/


theorem slices_ContainsFunc_p1 (a0 : (List (Int × Bool))) (c1 : Int)
    (h1 : SC cfg.P i_slices_IndexFunc [.s (.v (.sl (.pr (.int .i64) .bool)) a0), .fn i_impl_node_kinds_k1 [] []] (.s (.v (.int .i64) c1)) [])
    (h2 : c1 ≥ (0 : Int)) :
    SC cfg.P i_slices_ContainsFunc [.s (.v (.sl (.pr (.int .i64) .bool)) a0), .fn i_impl_node_kinds_k1 [] []] (.s (.v .bool true)) [] :=
  SC_of_run cfgOK (its := [.res (.s (.v (.int .i64) c1)) [] [] [], .bool true])
    (ps := [SC cfg.P i_slices_IndexFunc [.s (.v (.sl (.pr (.int .i64) .bool)) a0), .fn i_impl_node_kinds_k1 [] []] (.s (.v (.int .i64) c1)) [],
      decide (c1 ≥ (0 : Int)) = true]) (by kernel_rfl) ⟨h1, (decide_eq_true h2), trivial⟩ get_slices_ContainsFunc (by decide)

theorem slices_ContainsFunc_p2 (a0 : (List (Int × Bool))) (c1 : Int)
    (h1 : SC cfg.P i_slices_IndexFunc [.s (.v (.sl (.pr (.int .i64) .bool)) a0), .fn i_impl_node_kinds_k1 [] []] (.s (.v (.int .i64) c1)) [])
    (h2 : ¬ (c1 ≥ (0 : Int))) :
    SC cfg.P i_slices_ContainsFunc [.s (.v (.sl (.pr (.int .i64) .bool)) a0), .fn i_impl_node_kinds_k1 [] []] (.s (.v .bool false)) [] :=
  SC_of_run cfgOK (its := [.res (.s (.v (.int .i64) c1)) [] [] [], .bool false])
    (ps := [SC cfg.P i_slices_IndexFunc [.s (.v (.sl (.pr (.int .i64) .bool)) a0), .fn i_impl_node_kinds_k1 [] []] (.s (.v (.int .i64) c1)) [],
      decide (c1 ≥ (0 : Int)) = false]) (by kernel_rfl) ⟨h1, (decide_eq_false h2), trivial⟩ get_slices_ContainsFunc (by decide)

/-! ### impl_node_kinds_k1 -/


theorem impl_node_kinds_k1_p1 (a0 : (Int × Bool))
    (h1 : a0.1 ≠ (1 : Int)) :
    SC cfg.P i_impl_node_kinds_k1 [.s (.v (.pr (.int .i64) .bool) a0)] (.s (.v .bool true)) [] :=
  SC_of_run cfgOK (its := [.bool true])
    (ps := [(a0.1 != (1 : Int)) = true]) (by kernel_rfl) ⟨(bne_t h1), trivial⟩ get_impl_node_kinds_k1 (by decide)

theorem impl_node_kinds_k1_p2 (a0 : (Int × Bool))
    (h1 : a0.1 = (1 : Int)) :
    SC cfg.P i_impl_node_kinds_k1 [.s (.v (.pr (.int .i64) .bool) a0)] (.s (.v .bool false)) [] :=
  SC_of_run cfgOK (its := [.bool false])
    (ps := [(a0.1 != (1 : Int)) = false]) (by kernel_rfl) ⟨(bne_f h1), trivial⟩ get_impl_node_kinds_k1 (by decide)

/-! ### spec_lnInner -/


theorem spec_lnInner_p1 (a0 : ByteArray)
    (h1 : SC cfg.P i_spec_trLeaf [.s (.v .str a0)] (.s (.v .bool true)) []) :
    SC cfg.P i_spec_lnInner [.s (.v .str a0)] (.s (.own t_string .str ([] : List ByteArray))) [] :=
  SC_of_run cfgOK (its := [.res (.s (.v .bool true)) [] [] []])
    (ps := [SC cfg.P i_spec_trLeaf [.s (.v .str a0)] (.s (.v .bool true)) []]) (by kernel_rfl) ⟨h1, trivial⟩ get_spec_lnInner (by decide)

theorem spec_lnInner_p2 (a0 : ByteArray) (c2a : ByteArray) (c2b : ByteArray) (c4 : (List ByteArray)) (c5 : (List ByteArray))
    (h1 : SC cfg.P i_spec_trLeaf [.s (.v .str a0)] (.s (.v .bool false)) [])
    (h2 : SC cfg.P i_spec_trSides [.s (.v .str a0)] (.tup [.v .str c2a, .v .str c2b]) [])
    (h3 : SC cfg.P i_spec_trLeaf [.s (.v .str c2b)] (.s (.v .bool true)) [])
    (h4 : SC cfg.P i_spec_lnInner [.s (.v .str c2a)] (.s (.own t_string .str c4)) [])
    (h5 : sizeOK (List.length c4 + List.length ([(⟨#[73, 48]⟩ : ByteArray)] : List ByteArray)))
    (h6 : SC cfg.P i_spec_lnInner [.s (.v .str c2b)] (.s (.own t_string .str c5)) [])
    (h7 : sizeOK (List.length (c4 ++ ([(⟨#[73, 48]⟩ : ByteArray)] : List ByteArray)) + List.length c5)) :
    SC cfg.P i_spec_lnInner [.s (.v .str a0)] (.s (.own t_string .str ((c4 ++ ([(⟨#[73, 48]⟩ : ByteArray)] : List ByteArray)) ++ c5))) [] :=
  SC_of_run cfgOK (its := [.res (.s (.v .bool false)) [] [] [], .res (.tup [.v .str c2a, .v .str c2b]) [] [] [], .res (.s (.v .bool true)) [] [] [], .res (.s (.own t_string .str c4)) [] [] [16], .res (.s (.own t_string .str c5)) [] [] [21]])
    (ps := [SC cfg.P i_spec_trLeaf [.s (.v .str a0)] (.s (.v .bool false)) [],
      SC cfg.P i_spec_trSides [.s (.v .str a0)] (.tup [.v .str c2a, .v .str c2b]) [],
      SC cfg.P i_spec_trLeaf [.s (.v .str c2b)] (.s (.v .bool true)) [],
      SC cfg.P i_spec_lnInner [.s (.v .str c2a)] (.s (.own t_string .str c4)) [],
      sizeOK (List.length c4 + List.length ([(⟨#[73, 48]⟩ : ByteArray)] : List ByteArray)),
      SC cfg.P i_spec_lnInner [.s (.v .str c2b)] (.s (.own t_string .str c5)) [],
      sizeOK (List.length (c4 ++ ([(⟨#[73, 48]⟩ : ByteArray)] : List ByteArray)) + List.length c5)]) (by kernel_rfl) ⟨h1, h2, h3, h4, h5, h6, h7, trivial⟩ get_spec_lnInner (by decide)

theorem spec_lnInner_p3 (a0 : ByteArray) (c2a : ByteArray) (c2b : ByteArray) (c4 : (List ByteArray)) (c5 : (List ByteArray))
    (h1 : SC cfg.P i_spec_trLeaf [.s (.v .str a0)] (.s (.v .bool false)) [])
    (h2 : SC cfg.P i_spec_trSides [.s (.v .str a0)] (.tup [.v .str c2a, .v .str c2b]) [])
    (h3 : SC cfg.P i_spec_trLeaf [.s (.v .str c2b)] (.s (.v .bool false)) [])
    (h4 : SC cfg.P i_spec_lnInner [.s (.v .str c2a)] (.s (.own t_string .str c4)) [])
    (h5 : sizeOK (List.length c4 + List.length ([(⟨#[73, 82]⟩ : ByteArray)] : List ByteArray)))
    (h6 : SC cfg.P i_spec_lnInner [.s (.v .str c2b)] (.s (.own t_string .str c5)) [])
    (h7 : sizeOK (List.length (c4 ++ ([(⟨#[73, 82]⟩ : ByteArray)] : List ByteArray)) + List.length c5)) :
    SC cfg.P i_spec_lnInner [.s (.v .str a0)] (.s (.own t_string .str ((c4 ++ ([(⟨#[73, 82]⟩ : ByteArray)] : List ByteArray)) ++ c5))) [] :=
  SC_of_run cfgOK (its := [.res (.s (.v .bool false)) [] [] [], .res (.tup [.v .str c2a, .v .str c2b]) [] [] [], .res (.s (.v .bool false)) [] [] [], .res (.s (.own t_string .str c4)) [] [] [16], .res (.s (.own t_string .str c5)) [] [] [21]])
    (ps := [SC cfg.P i_spec_trLeaf [.s (.v .str a0)] (.s (.v .bool false)) [],
      SC cfg.P i_spec_trSides [.s (.v .str a0)] (.tup [.v .str c2a, .v .str c2b]) [],
      SC cfg.P i_spec_trLeaf [.s (.v .str c2b)] (.s (.v .bool false)) [],
      SC cfg.P i_spec_lnInner [.s (.v .str c2a)] (.s (.own t_string .str c4)) [],
      sizeOK (List.length c4 + List.length ([(⟨#[73, 82]⟩ : ByteArray)] : List ByteArray)),
      SC cfg.P i_spec_lnInner [.s (.v .str c2b)] (.s (.own t_string .str c5)) [],
      sizeOK (List.length (c4 ++ ([(⟨#[73, 82]⟩ : ByteArray)] : List ByteArray)) + List.length c5)]) (by kernel_rfl) ⟨h1, h2, h3, h4, h5, h6, h7, trivial⟩ get_spec_lnInner (by decide)

/-! ### slices_IndexFunc -/


def slices_IndexFunc_L0a (x0 : (List (Int × Bool))) (x7 : Int) (x8 : Int) : St := mkSt 19 [(0, .s (.v (.sl (.pr (.int .i64) .bool)) x0)), (1, .fn i_impl_node_kinds_k1 [] []), (7, .s (.v (.int .i64) x7)), (8, .s (.v (.int .i64) x8))] []

def slices_IndexFunc_L0X1 (y4 : Int) : St := mkSt 19 [(4, .s (.v (.int .i64) y4))] []

def slices_IndexFunc_L0X2 (y0 : (List (Int × Bool))) (y7 : Int) (y8 : Int) (y9 : Bool) : St := mkSt 19 [(0, .s (.v (.sl (.pr (.int .i64) .bool)) y0)), (1, .fn i_impl_node_kinds_k1 [] []), (7, .s (.v (.int .i64) y7)), (8, .s (.v (.int .i64) y8)), (9, .s (.v .bool y9))] []

theorem slices_IndexFunc_L0a_x1 (x0 : (List (Int × Bool))) (x7 : Int) (x8 : Int)
    (h1 : x8 < x7)
    (h2 : 0 ≤ x8)
    (h3 : x8 < (List.length x0 : Int))
    (h4 : SC cfg.P i_impl_node_kinds_k1 [.s (.v (.pr (.int .i64) .bool) (List.getD x0 (x8).toNat ((0 : Int), false)))] (.s (.v .bool true)) []) :
    LoopSC cfg.P 2 (lb P_slices_IndexFunc 0) (slices_IndexFunc_L0a x0 x7 x8) (.ret) (slices_IndexFunc_L0X1 x8) :=
  loop_out cfgOK (f := i_slices_IndexFunc) (its := [.bool true, .res (.s (.v .bool true)) [] [] []])
    (ps := [decide (x8 < x7) = true,
      0 ≤ x8,
      x8 < (List.length x0 : Int),
      SC cfg.P i_impl_node_kinds_k1 [.s (.v (.pr (.int .i64) .bool) (List.getD x0 (x8).toNat ((0 : Int), false)))] (.s (.v .bool true)) []]) (by kernel_rfl) ⟨(decide_eq_true h1), h2, h3, h4, trivial⟩ (fun h => by cases h)

theorem slices_IndexFunc_L0a_i2 (x0 : (List (Int × Bool))) (x7 : Int) (x8 : Int)
    (h1 : x8 < x7)
    (h2 : 0 ≤ x8)
    (h3 : x8 < (List.length x0 : Int))
    (h4 : SC cfg.P i_impl_node_kinds_k1 [.s (.v (.pr (.int .i64) .bool) (List.getD x0 (x8).toNat ((0 : Int), false)))] (.s (.v .bool false)) [])
    {e : AEx} {st : St} (next : LoopSC cfg.P 2 (lb P_slices_IndexFunc 0) (slices_IndexFunc_L0a x0 x7 (IntKind.wrap .i64 (x8 + (1 : Int)))) e st) :
    LoopSC cfg.P 2 (lb P_slices_IndexFunc 0) (slices_IndexFunc_L0a x0 x7 x8) e st :=
  loop_iter cfgOK (f := i_slices_IndexFunc) (its := [.bool true, .res (.s (.v .bool false)) [] [] []])
    (ps := [decide (x8 < x7) = true,
      0 ≤ x8,
      x8 < (List.length x0 : Int),
      SC cfg.P i_impl_node_kinds_k1 [.s (.v (.pr (.int .i64) .bool) (List.getD x0 (x8).toNat ((0 : Int), false)))] (.s (.v .bool false)) []]) (st1 := slices_IndexFunc_L0a x0 x7 (IntKind.wrap .i64 (x8 + (1 : Int)))) (by kernel_rfl) ⟨(decide_eq_true h1), h2, h3, h4, trivial⟩ next

theorem slices_IndexFunc_L0a_x3 (x0 : (List (Int × Bool))) (x7 : Int) (x8 : Int)
    (h1 : ¬ (x8 < x7)) :
    LoopSC cfg.P 2 (lb P_slices_IndexFunc 0) (slices_IndexFunc_L0a x0 x7 x8) (.exit 0) (slices_IndexFunc_L0X2 x0 x7 x8 false) :=
  loop_out cfgOK (f := i_slices_IndexFunc) (its := [.bool false])
    (ps := [decide (x8 < x7) = false]) (by kernel_rfl) ⟨(decide_eq_false h1), trivial⟩ (fun h => by cases h)

theorem slices_IndexFunc_p1 (a0 : (List (Int × Bool))) (k1y4 : Int)
    (h1 : LoopSC cfg.P 2 (lb P_slices_IndexFunc 0) (slices_IndexFunc_L0a a0 ((List.length a0 : Nat) : Int) (0 : Int)) (.ret) (slices_IndexFunc_L0X1 k1y4)) :
    SC cfg.P i_slices_IndexFunc [.s (.v (.sl (.pr (.int .i64) .bool)) a0), .fn i_impl_node_kinds_k1 [] []] (.s (.v (.int .i64) k1y4)) [] :=
  SC_of_run cfgOK (its := [.loop (fun _ => (.ret, slices_IndexFunc_L0X1 k1y4))])
    (ps := [LoopSC cfg.P 2 (lb P_slices_IndexFunc 0) (slices_IndexFunc_L0a a0 ((List.length a0 : Nat) : Int) (0 : Int)) (.ret) (slices_IndexFunc_L0X1 k1y4)]) (by kernel_rfl) ⟨h1, trivial⟩ get_slices_IndexFunc (by decide)

theorem slices_IndexFunc_p2 (a0 : (List (Int × Bool))) (k1y0 : (List (Int × Bool))) (k1y7 : Int) (k1y8 : Int) (k1y9 : Bool)
    (h1 : LoopSC cfg.P 2 (lb P_slices_IndexFunc 0) (slices_IndexFunc_L0a a0 ((List.length a0 : Nat) : Int) (0 : Int)) (.exit 0) (slices_IndexFunc_L0X2 k1y0 k1y7 k1y8 k1y9)) :
    SC cfg.P i_slices_IndexFunc [.s (.v (.sl (.pr (.int .i64) .bool)) a0), .fn i_impl_node_kinds_k1 [] []] (.s (.v (.int .i64) (-1 : Int))) [] :=
  SC_of_run cfgOK (its := [.loop (fun _ => (.exit 0, slices_IndexFunc_L0X2 k1y0 k1y7 k1y8 k1y9))])
    (ps := [LoopSC cfg.P 2 (lb P_slices_IndexFunc 0) (slices_IndexFunc_L0a a0 ((List.length a0 : Nat) : Int) (0 : Int)) (.exit 0) (slices_IndexFunc_L0X2 k1y0 k1y7 k1y8 k1y9)]) (by kernel_rfl) ⟨h1, trivial⟩ get_slices_IndexFunc (by decide)

end Go.AI
