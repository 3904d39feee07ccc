/- A part of the road: what it proves stands in its last texts. -/
import Derived.Test.YtdfllkeekehplaaSIds
import Derived.Test.YtdfllkeekehplaaProg
set_option autoImplicit false
set_option maxRecDepth 100000
set_option linter.unusedVariables false
namespace Go.AI
open Go.Proofs

/-! ### impl_KindLength -/


theorem impl_KindLength_p1 (a0 : ByteArray) (a1 : ByteArray)
    (h1 : a0 = (⟨#[76, 48]⟩ : ByteArray))
    (h2 : a1 = (⟨#[76, 48]⟩ : ByteArray)) :
    SC cfg.P i_impl_KindLength [.s (.v .str a0), .s (.v .str a1)] (.tup [.v (.int .i64) (0 : Int), .v .bool true]) [] :=
  SC_of_run cfgOK (its := [.bool true, .bool true])
    (ps := [((a0).toList == ((⟨#[76, 48]⟩ : ByteArray)).toList) = true,
      ((a1).toList == ((⟨#[76, 48]⟩ : ByteArray)).toList) = true]) (by kernel_rfl) ⟨(seq_t h1), (seq_t h2), trivial⟩ get_impl_KindLength (by decide)

theorem impl_KindLength_p2 (a0 : ByteArray) (a1 : ByteArray) (c1 : Int) (c2 : Int)
    (h1 : a0 = (⟨#[76, 48]⟩ : ByteArray))
    (h2 : a1 ≠ (⟨#[76, 48]⟩ : ByteArray))
    (h3 : SC cfg.P i_slices_Index_string [.s (.v (.sl .str) ([(⟨#[82, 48]⟩ : ByteArray), (⟨#[82, 78]⟩ : ByteArray), (⟨#[82, 73]⟩ : ByteArray), (⟨#[76, 76]⟩ : ByteArray), (⟨#[73, 48]⟩ : ByteArray), (⟨#[73, 82]⟩ : ByteArray)] : List ByteArray)), .s (.v .str a0)] (.s (.v (.int .i64) c1)) [])
    (h4 : SC cfg.P i_slices_Index_string [.s (.v (.sl .str) ([(⟨#[82, 48]⟩ : ByteArray), (⟨#[82, 78]⟩ : ByteArray), (⟨#[82, 73]⟩ : ByteArray), (⟨#[76, 76]⟩ : ByteArray), (⟨#[73, 48]⟩ : ByteArray), (⟨#[73, 82]⟩ : ByteArray)] : List ByteArray)), .s (.v .str a1)] (.s (.v (.int .i64) c2)) [])
    (h5 : c1 < (0 : Int)) :
    SC cfg.P i_impl_KindLength [.s (.v .str a0), .s (.v .str a1)] (.tup [.v (.int .i64) (0 : Int), .v .bool false]) [] :=
  SC_of_run cfgOK (its := [.bool true, .bool false, .res (.s (.v (.int .i64) c1)) [] [] [], .res (.s (.v (.int .i64) c2)) [] [] [], .bool true])
    (ps := [((a0).toList == ((⟨#[76, 48]⟩ : ByteArray)).toList) = true,
      ((a1).toList == ((⟨#[76, 48]⟩ : ByteArray)).toList) = false,
      SC cfg.P i_slices_Index_string [.s (.v (.sl .str) ([(⟨#[82, 48]⟩ : ByteArray), (⟨#[82, 78]⟩ : ByteArray), (⟨#[82, 73]⟩ : ByteArray), (⟨#[76, 76]⟩ : ByteArray), (⟨#[73, 48]⟩ : ByteArray), (⟨#[73, 82]⟩ : ByteArray)] : List ByteArray)), .s (.v .str a0)] (.s (.v (.int .i64) c1)) [],
      SC cfg.P i_slices_Index_string [.s (.v (.sl .str) ([(⟨#[82, 48]⟩ : ByteArray), (⟨#[82, 78]⟩ : ByteArray), (⟨#[82, 73]⟩ : ByteArray), (⟨#[76, 76]⟩ : ByteArray), (⟨#[73, 48]⟩ : ByteArray), (⟨#[73, 82]⟩ : ByteArray)] : List ByteArray)), .s (.v .str a1)] (.s (.v (.int .i64) c2)) [],
      decide (c1 < (0 : Int)) = true]) (by kernel_rfl) ⟨(seq_t h1), (seq_f h2), h3, h4, (decide_eq_true h5), trivial⟩ get_impl_KindLength (by decide)

theorem impl_KindLength_p3 (a0 : ByteArray) (a1 : ByteArray) (c1 : Int) (c2 : Int)
    (h1 : a0 = (⟨#[76, 48]⟩ : ByteArray))
    (h2 : a1 ≠ (⟨#[76, 48]⟩ : ByteArray))
    (h3 : SC cfg.P i_slices_Index_string [.s (.v (.sl .str) ([(⟨#[82, 48]⟩ : ByteArray), (⟨#[82, 78]⟩ : ByteArray), (⟨#[82, 73]⟩ : ByteArray), (⟨#[76, 76]⟩ : ByteArray), (⟨#[73, 48]⟩ : ByteArray), (⟨#[73, 82]⟩ : ByteArray)] : List ByteArray)), .s (.v .str a0)] (.s (.v (.int .i64) c1)) [])
    (h4 : SC cfg.P i_slices_Index_string [.s (.v (.sl .str) ([(⟨#[82, 48]⟩ : ByteArray), (⟨#[82, 78]⟩ : ByteArray), (⟨#[82, 73]⟩ : ByteArray), (⟨#[76, 76]⟩ : ByteArray), (⟨#[73, 48]⟩ : ByteArray), (⟨#[73, 82]⟩ : ByteArray)] : List ByteArray)), .s (.v .str a1)] (.s (.v (.int .i64) c2)) [])
    (h5 : ¬ (c1 < (0 : Int)))
    (h6 : c2 < (0 : Int)) :
    SC cfg.P i_impl_KindLength [.s (.v .str a0), .s (.v .str a1)] (.tup [.v (.int .i64) (0 : Int), .v .bool false]) [] :=
  SC_of_run cfgOK (its := [.bool true, .bool false, .res (.s (.v (.int .i64) c1)) [] [] [], .res (.s (.v (.int .i64) c2)) [] [] [], .bool false, .bool true])
    (ps := [((a0).toList == ((⟨#[76, 48]⟩ : ByteArray)).toList) = true,
      ((a1).toList == ((⟨#[76, 48]⟩ : ByteArray)).toList) = false,
      SC cfg.P i_slices_Index_string [.s (.v (.sl .str) ([(⟨#[82, 48]⟩ : ByteArray), (⟨#[82, 78]⟩ : ByteArray), (⟨#[82, 73]⟩ : ByteArray), (⟨#[76, 76]⟩ : ByteArray), (⟨#[73, 48]⟩ : ByteArray), (⟨#[73, 82]⟩ : ByteArray)] : List ByteArray)), .s (.v .str a0)] (.s (.v (.int .i64) c1)) [],
      SC cfg.P i_slices_Index_string [.s (.v (.sl .str) ([(⟨#[82, 48]⟩ : ByteArray), (⟨#[82, 78]⟩ : ByteArray), (⟨#[82, 73]⟩ : ByteArray), (⟨#[76, 76]⟩ : ByteArray), (⟨#[73, 48]⟩ : ByteArray), (⟨#[73, 82]⟩ : ByteArray)] : List ByteArray)), .s (.v .str a1)] (.s (.v (.int .i64) c2)) [],
      decide (c1 < (0 : Int)) = false,
      decide (c2 < (0 : Int)) = true]) (by kernel_rfl) ⟨(seq_t h1), (seq_f h2), h3, h4, (decide_eq_false h5), (decide_eq_true h6), trivial⟩ get_impl_KindLength (by decide)

theorem impl_KindLength_p4 (a0 : ByteArray) (a1 : ByteArray) (c1 : Int) (c2 : Int)
    (h1 : a0 = (⟨#[76, 48]⟩ : ByteArray))
    (h2 : a1 ≠ (⟨#[76, 48]⟩ : ByteArray))
    (h3 : SC cfg.P i_slices_Index_string [.s (.v (.sl .str) ([(⟨#[82, 48]⟩ : ByteArray), (⟨#[82, 78]⟩ : ByteArray), (⟨#[82, 73]⟩ : ByteArray), (⟨#[76, 76]⟩ : ByteArray), (⟨#[73, 48]⟩ : ByteArray), (⟨#[73, 82]⟩ : ByteArray)] : List ByteArray)), .s (.v .str a0)] (.s (.v (.int .i64) c1)) [])
    (h4 : SC cfg.P i_slices_Index_string [.s (.v (.sl .str) ([(⟨#[82, 48]⟩ : ByteArray), (⟨#[82, 78]⟩ : ByteArray), (⟨#[82, 73]⟩ : ByteArray), (⟨#[76, 76]⟩ : ByteArray), (⟨#[73, 48]⟩ : ByteArray), (⟨#[73, 82]⟩ : ByteArray)] : List ByteArray)), .s (.v .str a1)] (.s (.v (.int .i64) c2)) [])
    (h5 : ¬ (c1 < (0 : Int)))
    (h6 : ¬ (c2 < (0 : Int)))
    (h7 : 0 ≤ c1)
    (h8 : c1 < ((6 : Nat) : Int))
    (h9 : 0 ≤ c2)
    (h10 : c2 < ((6 : Nat) : Int)) :
    SC cfg.P i_impl_KindLength [.s (.v .str a0), .s (.v .str a1)] (.tup [.v (.int .i64) (List.getD (List.getD ([([(0 : Int), (2 : Int), (2 : Int), (1 : Int), (1 : Int), (3 : Int)] : List Int), ([(2 : Int), (2 : Int), (2 : Int), (1 : Int), (1 : Int), (3 : Int)] : List Int), ([(2 : Int), (2 : Int), (2 : Int), (1 : Int), (3 : Int), (3 : Int)] : List Int), ([(1 : Int), (1 : Int), (1 : Int), (2 : Int), (2 : Int), (2 : Int)] : List Int), ([(1 : Int), (1 : Int), (3 : Int), (2 : Int), (2 : Int), (4 : Int)] : List Int), ([(3 : Int), (3 : Int), (3 : Int), (2 : Int), (4 : Int), (4 : Int)] : List Int)] : List (List Int)) (c1).toNat (List.replicate 6 (0 : Int))) (c2).toNat (0 : Int)), .v .bool true]) [] :=
  SC_of_run cfgOK (its := [.bool true, .bool false, .res (.s (.v (.int .i64) c1)) [] [] [], .res (.s (.v (.int .i64) c2)) [] [] [], .bool false, .bool false])
    (ps := [((a0).toList == ((⟨#[76, 48]⟩ : ByteArray)).toList) = true,
      ((a1).toList == ((⟨#[76, 48]⟩ : ByteArray)).toList) = false,
      SC cfg.P i_slices_Index_string [.s (.v (.sl .str) ([(⟨#[82, 48]⟩ : ByteArray), (⟨#[82, 78]⟩ : ByteArray), (⟨#[82, 73]⟩ : ByteArray), (⟨#[76, 76]⟩ : ByteArray), (⟨#[73, 48]⟩ : ByteArray), (⟨#[73, 82]⟩ : ByteArray)] : List ByteArray)), .s (.v .str a0)] (.s (.v (.int .i64) c1)) [],
      SC cfg.P i_slices_Index_string [.s (.v (.sl .str) ([(⟨#[82, 48]⟩ : ByteArray), (⟨#[82, 78]⟩ : ByteArray), (⟨#[82, 73]⟩ : ByteArray), (⟨#[76, 76]⟩ : ByteArray), (⟨#[73, 48]⟩ : ByteArray), (⟨#[73, 82]⟩ : ByteArray)] : List ByteArray)), .s (.v .str a1)] (.s (.v (.int .i64) c2)) [],
      decide (c1 < (0 : Int)) = false,
      decide (c2 < (0 : Int)) = false,
      0 ≤ c1,
      c1 < ((6 : Nat) : Int),
      0 ≤ c2,
      c2 < ((6 : Nat) : Int)]) (by kernel_rfl) ⟨(seq_t h1), (seq_f h2), h3, h4, (decide_eq_false h5), (decide_eq_false h6), h7, h8, h9, h10, trivial⟩ get_impl_KindLength (by decide)

theorem impl_KindLength_p5 (a0 : ByteArray) (a1 : ByteArray) (c1 : Int) (c2 : Int)
    (h1 : a0 ≠ (⟨#[76, 48]⟩ : ByteArray))
    (h2 : SC cfg.P i_slices_Index_string [.s (.v (.sl .str) ([(⟨#[82, 48]⟩ : ByteArray), (⟨#[82, 78]⟩ : ByteArray), (⟨#[82, 73]⟩ : ByteArray), (⟨#[76, 76]⟩ : ByteArray), (⟨#[73, 48]⟩ : ByteArray), (⟨#[73, 82]⟩ : ByteArray)] : List ByteArray)), .s (.v .str a0)] (.s (.v (.int .i64) c1)) [])
    (h3 : SC cfg.P i_slices_Index_string [.s (.v (.sl .str) ([(⟨#[82, 48]⟩ : ByteArray), (⟨#[82, 78]⟩ : ByteArray), (⟨#[82, 73]⟩ : ByteArray), (⟨#[76, 76]⟩ : ByteArray), (⟨#[73, 48]⟩ : ByteArray), (⟨#[73, 82]⟩ : ByteArray)] : List ByteArray)), .s (.v .str a1)] (.s (.v (.int .i64) c2)) [])
    (h4 : c1 < (0 : Int)) :
    SC cfg.P i_impl_KindLength [.s (.v .str a0), .s (.v .str a1)] (.tup [.v (.int .i64) (0 : Int), .v .bool false]) [] :=
  SC_of_run cfgOK (its := [.bool false, .res (.s (.v (.int .i64) c1)) [] [] [], .res (.s (.v (.int .i64) c2)) [] [] [], .bool true])
    (ps := [((a0).toList == ((⟨#[76, 48]⟩ : ByteArray)).toList) = false,
      SC cfg.P i_slices_Index_string [.s (.v (.sl .str) ([(⟨#[82, 48]⟩ : ByteArray), (⟨#[82, 78]⟩ : ByteArray), (⟨#[82, 73]⟩ : ByteArray), (⟨#[76, 76]⟩ : ByteArray), (⟨#[73, 48]⟩ : ByteArray), (⟨#[73, 82]⟩ : ByteArray)] : List ByteArray)), .s (.v .str a0)] (.s (.v (.int .i64) c1)) [],
      SC cfg.P i_slices_Index_string [.s (.v (.sl .str) ([(⟨#[82, 48]⟩ : ByteArray), (⟨#[82, 78]⟩ : ByteArray), (⟨#[82, 73]⟩ : ByteArray), (⟨#[76, 76]⟩ : ByteArray), (⟨#[73, 48]⟩ : ByteArray), (⟨#[73, 82]⟩ : ByteArray)] : List ByteArray)), .s (.v .str a1)] (.s (.v (.int .i64) c2)) [],
      decide (c1 < (0 : Int)) = true]) (by kernel_rfl) ⟨(seq_f h1), h2, h3, (decide_eq_true h4), trivial⟩ get_impl_KindLength (by decide)

theorem impl_KindLength_p6 (a0 : ByteArray) (a1 : ByteArray) (c1 : Int) (c2 : Int)
    (h1 : a0 ≠ (⟨#[76, 48]⟩ : ByteArray))
    (h2 : SC cfg.P i_slices_Index_string [.s (.v (.sl .str) ([(⟨#[82, 48]⟩ : ByteArray), (⟨#[82, 78]⟩ : ByteArray), (⟨#[82, 73]⟩ : ByteArray), (⟨#[76, 76]⟩ : ByteArray), (⟨#[73, 48]⟩ : ByteArray), (⟨#[73, 82]⟩ : ByteArray)] : List ByteArray)), .s (.v .str a0)] (.s (.v (.int .i64) c1)) [])
    (h3 : SC cfg.P i_slices_Index_string [.s (.v (.sl .str) ([(⟨#[82, 48]⟩ : ByteArray), (⟨#[82, 78]⟩ : ByteArray), (⟨#[82, 73]⟩ : ByteArray), (⟨#[76, 76]⟩ : ByteArray), (⟨#[73, 48]⟩ : ByteArray), (⟨#[73, 82]⟩ : ByteArray)] : List ByteArray)), .s (.v .str a1)] (.s (.v (.int .i64) c2)) [])
    (h4 : ¬ (c1 < (0 : Int)))
    (h5 : c2 < (0 : Int)) :
    SC cfg.P i_impl_KindLength [.s (.v .str a0), .s (.v .str a1)] (.tup [.v (.int .i64) (0 : Int), .v .bool false]) [] :=
  SC_of_run cfgOK (its := [.bool false, .res (.s (.v (.int .i64) c1)) [] [] [], .res (.s (.v (.int .i64) c2)) [] [] [], .bool false, .bool true])
    (ps := [((a0).toList == ((⟨#[76, 48]⟩ : ByteArray)).toList) = false,
      SC cfg.P i_slices_Index_string [.s (.v (.sl .str) ([(⟨#[82, 48]⟩ : ByteArray), (⟨#[82, 78]⟩ : ByteArray), (⟨#[82, 73]⟩ : ByteArray), (⟨#[76, 76]⟩ : ByteArray), (⟨#[73, 48]⟩ : ByteArray), (⟨#[73, 82]⟩ : ByteArray)] : List ByteArray)), .s (.v .str a0)] (.s (.v (.int .i64) c1)) [],
      SC cfg.P i_slices_Index_string [.s (.v (.sl .str) ([(⟨#[82, 48]⟩ : ByteArray), (⟨#[82, 78]⟩ : ByteArray), (⟨#[82, 73]⟩ : ByteArray), (⟨#[76, 76]⟩ : ByteArray), (⟨#[73, 48]⟩ : ByteArray), (⟨#[73, 82]⟩ : ByteArray)] : List ByteArray)), .s (.v .str a1)] (.s (.v (.int .i64) c2)) [],
      decide (c1 < (0 : Int)) = false,
      decide (c2 < (0 : Int)) = true]) (by kernel_rfl) ⟨(seq_f h1), h2, h3, (decide_eq_false h4), (decide_eq_true h5), trivial⟩ get_impl_KindLength (by decide)

theorem impl_KindLength_p7 (a0 : ByteArray) (a1 : ByteArray) (c1 : Int) (c2 : Int)
    (h1 : a0 ≠ (⟨#[76, 48]⟩ : ByteArray))
    (h2 : SC cfg.P i_slices_Index_string [.s (.v (.sl .str) ([(⟨#[82, 48]⟩ : ByteArray), (⟨#[82, 78]⟩ : ByteArray), (⟨#[82, 73]⟩ : ByteArray), (⟨#[76, 76]⟩ : ByteArray), (⟨#[73, 48]⟩ : ByteArray), (⟨#[73, 82]⟩ : ByteArray)] : List ByteArray)), .s (.v .str a0)] (.s (.v (.int .i64) c1)) [])
    (h3 : SC cfg.P i_slices_Index_string [.s (.v (.sl .str) ([(⟨#[82, 48]⟩ : ByteArray), (⟨#[82, 78]⟩ : ByteArray), (⟨#[82, 73]⟩ : ByteArray), (⟨#[76, 76]⟩ : ByteArray), (⟨#[73, 48]⟩ : ByteArray), (⟨#[73, 82]⟩ : ByteArray)] : List ByteArray)), .s (.v .str a1)] (.s (.v (.int .i64) c2)) [])
    (h4 : ¬ (c1 < (0 : Int)))
    (h5 : ¬ (c2 < (0 : Int)))
    (h6 : 0 ≤ c1)
    (h7 : c1 < ((6 : Nat) : Int))
    (h8 : 0 ≤ c2)
    (h9 : c2 < ((6 : Nat) : Int)) :
    SC cfg.P i_impl_KindLength [.s (.v .str a0), .s (.v .str a1)] (.tup [.v (.int .i64) (List.getD (List.getD ([([(0 : Int), (2 : Int), (2 : Int), (1 : Int), (1 : Int), (3 : Int)] : List Int), ([(2 : Int), (2 : Int), (2 : Int), (1 : Int), (1 : Int), (3 : Int)] : List Int), ([(2 : Int), (2 : Int), (2 : Int), (1 : Int), (3 : Int), (3 : Int)] : List Int), ([(1 : Int), (1 : Int), (1 : Int), (2 : Int), (2 : Int), (2 : Int)] : List Int), ([(1 : Int), (1 : Int), (3 : Int), (2 : Int), (2 : Int), (4 : Int)] : List Int), ([(3 : Int), (3 : Int), (3 : Int), (2 : Int), (4 : Int), (4 : Int)] : List Int)] : List (List Int)) (c1).toNat (List.replicate 6 (0 : Int))) (c2).toNat (0 : Int)), .v .bool true]) [] :=
  SC_of_run cfgOK (its := [.bool false, .res (.s (.v (.int .i64) c1)) [] [] [], .res (.s (.v (.int .i64) c2)) [] [] [], .bool false, .bool false])
    (ps := [((a0).toList == ((⟨#[76, 48]⟩ : ByteArray)).toList) = false,
      SC cfg.P i_slices_Index_string [.s (.v (.sl .str) ([(⟨#[82, 48]⟩ : ByteArray), (⟨#[82, 78]⟩ : ByteArray), (⟨#[82, 73]⟩ : ByteArray), (⟨#[76, 76]⟩ : ByteArray), (⟨#[73, 48]⟩ : ByteArray), (⟨#[73, 82]⟩ : ByteArray)] : List ByteArray)), .s (.v .str a0)] (.s (.v (.int .i64) c1)) [],
      SC cfg.P i_slices_Index_string [.s (.v (.sl .str) ([(⟨#[82, 48]⟩ : ByteArray), (⟨#[82, 78]⟩ : ByteArray), (⟨#[82, 73]⟩ : ByteArray), (⟨#[76, 76]⟩ : ByteArray), (⟨#[73, 48]⟩ : ByteArray), (⟨#[73, 82]⟩ : ByteArray)] : List ByteArray)), .s (.v .str a1)] (.s (.v (.int .i64) c2)) [],
      decide (c1 < (0 : Int)) = false,
      decide (c2 < (0 : Int)) = false,
      0 ≤ c1,
      c1 < ((6 : Nat) : Int),
      0 ≤ c2,
      c2 < ((6 : Nat) : Int)]) (by kernel_rfl) ⟨(seq_f h1), h2, h3, (decide_eq_false h4), (decide_eq_false h5), h6, h7, h8, h9, trivial⟩ get_impl_KindLength (by decide)

/-! ### slices_Index_string -/


def slices_Index_string_L0a (x0 : (List ByteArray)) (x1 : ByteArray) (x7 : Int) (x8 : Int) : St := mkSt 19 [(0, .s (.v (.sl .str) x0)), (1, .s (.v .str x1)), (7, .s (.v (.int .i64) x7)), (8, .s (.v (.int .i64) x8))] []

def slices_Index_string_L0X1 (y4 : Int) : St := mkSt 19 [(4, .s (.v (.int .i64) y4))] []

def slices_Index_string_L0X2 (y0 : (List ByteArray)) (y1 : ByteArray) (y7 : Int) (y8 : Int) (y9 : Bool) : St := mkSt 19 [(0, .s (.v (.sl .str) y0)), (1, .s (.v .str y1)), (7, .s (.v (.int .i64) y7)), (8, .s (.v (.int .i64) y8)), (9, .s (.v .bool y9))] []

theorem slices_Index_string_L0a_x1 (x0 : (List ByteArray)) (x1 : ByteArray) (x7 : Int) (x8 : Int)
    (h1 : x8 < x7)
    (h2 : 0 ≤ x8)
    (h3 : x8 < (List.length x0 : Int))
    (h4 : x1 = (List.getD x0 (x8).toNat (⟨#[]⟩ : ByteArray))) :
    LoopSC cfg.P 2 (lb P_slices_Index_string 0) (slices_Index_string_L0a x0 x1 x7 x8) (.ret) (slices_Index_string_L0X1 x8) :=
  loop_out cfgOK (f := i_slices_Index_string) (its := [.bool true, .bool true])
    (ps := [decide (x8 < x7) = true,
      0 ≤ x8,
      x8 < (List.length x0 : Int),
      ((x1).toList == ((List.getD x0 (x8).toNat (⟨#[]⟩ : ByteArray))).toList) = true]) (by kernel_rfl) ⟨(decide_eq_true h1), h2, h3, (seq_t h4), trivial⟩ (fun h => by cases h)

theorem slices_Index_string_L0a_i2 (x0 : (List ByteArray)) (x1 : ByteArray) (x7 : Int) (x8 : Int)
    (h1 : x8 < x7)
    (h2 : 0 ≤ x8)
    (h3 : x8 < (List.length x0 : Int))
    (h4 : x1 ≠ (List.getD x0 (x8).toNat (⟨#[]⟩ : ByteArray)))
    {e : AEx} {st : St} (next : LoopSC cfg.P 2 (lb P_slices_Index_string 0) (slices_Index_string_L0a x0 x1 x7 (IntKind.wrap .i64 (x8 + (1 : Int)))) e st) :
    LoopSC cfg.P 2 (lb P_slices_Index_string 0) (slices_Index_string_L0a x0 x1 x7 x8) e st :=
  loop_iter cfgOK (f := i_slices_Index_string) (its := [.bool true, .bool false])
    (ps := [decide (x8 < x7) = true,
      0 ≤ x8,
      x8 < (List.length x0 : Int),
      ((x1).toList == ((List.getD x0 (x8).toNat (⟨#[]⟩ : ByteArray))).toList) = false]) (st1 := slices_Index_string_L0a x0 x1 x7 (IntKind.wrap .i64 (x8 + (1 : Int)))) (by kernel_rfl) ⟨(decide_eq_true h1), h2, h3, (seq_f h4), trivial⟩ next

theorem slices_Index_string_L0a_x3 (x0 : (List ByteArray)) (x1 : ByteArray) (x7 : Int) (x8 : Int)
    (h1 : ¬ (x8 < x7)) :
    LoopSC cfg.P 2 (lb P_slices_Index_string 0) (slices_Index_string_L0a x0 x1 x7 x8) (.exit 0) (slices_Index_string_L0X2 x0 x1 x7 x8 false) :=
  loop_out cfgOK (f := i_slices_Index_string) (its := [.bool false])
    (ps := [decide (x8 < x7) = false]) (by kernel_rfl) ⟨(decide_eq_false h1), trivial⟩ (fun h => by cases h)

theorem slices_Index_string_p1 (a0 : (List ByteArray)) (a1 : ByteArray) (k1y4 : Int)
    (h1 : LoopSC cfg.P 2 (lb P_slices_Index_string 0) (slices_Index_string_L0a a0 a1 ((List.length a0 : Nat) : Int) (0 : Int)) (.ret) (slices_Index_string_L0X1 k1y4)) :
    SC cfg.P i_slices_Index_string [.s (.v (.sl .str) a0), .s (.v .str a1)] (.s (.v (.int .i64) k1y4)) [] :=
  SC_of_run cfgOK (its := [.loop (fun _ => (.ret, slices_Index_string_L0X1 k1y4))])
    (ps := [LoopSC cfg.P 2 (lb P_slices_Index_string 0) (slices_Index_string_L0a a0 a1 ((List.length a0 : Nat) : Int) (0 : Int)) (.ret) (slices_Index_string_L0X1 k1y4)]) (by kernel_rfl) ⟨h1, trivial⟩ get_slices_Index_string (by decide)

theorem slices_Index_string_p2 (a0 : (List ByteArray)) (a1 : ByteArray) (k1y0 : (List ByteArray)) (k1y1 : ByteArray) (k1y7 : Int) (k1y8 : Int) (k1y9 : Bool)
    (h1 : LoopSC cfg.P 2 (lb P_slices_Index_string 0) (slices_Index_string_L0a a0 a1 ((List.length a0 : Nat) : Int) (0 : Int)) (.exit 0) (slices_Index_string_L0X2 k1y0 k1y1 k1y7 k1y8 k1y9)) :
    SC cfg.P i_slices_Index_string [.s (.v (.sl .str) a0), .s (.v .str a1)] (.s (.v (.int .i64) (-1 : Int))) [] :=
  SC_of_run cfgOK (its := [.loop (fun _ => (.exit 0, slices_Index_string_L0X2 k1y0 k1y1 k1y7 k1y8 k1y9))])
    (ps := [LoopSC cfg.P 2 (lb P_slices_Index_string 0) (slices_Index_string_L0a a0 a1 ((List.length a0 : Nat) : Int) (0 : Int)) (.exit 0) (slices_Index_string_L0X2 k1y0 k1y1 k1y7 k1y8 k1y9)]) (by kernel_rfl) ⟨h1, trivial⟩ get_slices_Index_string (by decide)

/-! ### impl_node_kinds -/


def impl_node_kinds_L0a (x3 : (List (Int × Bool))) (x10 : (List (Int × Bool))) (x11 : Int) (x12 : Int) (xo4 : (List ByteArray)) : St := mkSt 49 [(3, .s (.v (.sl (.pr (.int .i64) .bool)) x3)), (4, .s (.osl 4 0)), (10, .s (.v (.sl (.pr (.int .i64) .bool)) x10)), (11, .s (.v (.int .i64) x11)), (12, .s (.v (.int .i64) x12))] [(4, .row t_string .str xo4 0 false)]

def impl_node_kinds_L0X1 (y3 : (List (Int × Bool))) (y10 : (List (Int × Bool))) (y11 : Int) (y12 : Int) (y13 : Bool) (yo4 : (List ByteArray)) : St := mkSt 49 [(3, .s (.v (.sl (.pr (.int .i64) .bool)) y3)), (4, .s (.osl 4 0)), (10, .s (.v (.sl (.pr (.int .i64) .bool)) y10)), (11, .s (.v (.int .i64) y11)), (12, .s (.v (.int .i64) y12)), (13, .s (.v .bool y13))] [(4, .row t_string .str yo4 0 false)]

theorem impl_node_kinds_L0a_i1 (x3 : (List (Int × Bool))) (x10 : (List (Int × Bool))) (x11 : Int) (x12 : Int) (xo4 : (List ByteArray))
    (h1 : x12 < x11)
    (h2 : 0 ≤ x12)
    (h3 : x12 < (List.length x10 : Int))
    (h4 : x12 = (0 : Int))
    (h5 : sizeOK (List.length xo4 + List.length ([(⟨#[76, 48]⟩ : ByteArray)] : List ByteArray)))
    {e : AEx} {st : St} (next : LoopSC cfg.P 1 (lb P_impl_node_kinds 0) (impl_node_kinds_L0a x3 x10 x11 (IntKind.wrap .i64 (x12 + (1 : Int))) (xo4 ++ ([(⟨#[76, 48]⟩ : ByteArray)] : List ByteArray))) e st) :
    LoopSC cfg.P 1 (lb P_impl_node_kinds 0) (impl_node_kinds_L0a x3 x10 x11 x12 xo4) e st :=
  loop_iter cfgOK (f := i_impl_node_kinds) (its := [.bool true, .bool true])
    (ps := [decide (x12 < x11) = true,
      0 ≤ x12,
      x12 < (List.length x10 : Int),
      (x12 == (0 : Int)) = true,
      sizeOK (List.length xo4 + List.length ([(⟨#[76, 48]⟩ : ByteArray)] : List ByteArray))]) (st1 := impl_node_kinds_L0a x3 x10 x11 (IntKind.wrap .i64 (x12 + (1 : Int))) (xo4 ++ ([(⟨#[76, 48]⟩ : ByteArray)] : List ByteArray))) (by kernel_rfl) ⟨(decide_eq_true h1), h2, h3, (beq_t h4), h5, trivial⟩ next

theorem impl_node_kinds_L0a_i2 (x3 : (List (Int × Bool))) (x10 : (List (Int × Bool))) (x11 : Int) (x12 : Int) (xo4 : (List ByteArray))
    (h1 : x12 < x11)
    (h2 : 0 ≤ x12)
    (h3 : x12 < (List.length x10 : Int))
    (h4 : x12 ≠ (0 : Int))
    (h5 : (List.getD x10 (x12).toNat ((0 : Int), false)).1 = (0 : Int))
    (h6 : sizeOK (List.length xo4 + List.length ([(⟨#[76, 76]⟩ : ByteArray)] : List ByteArray)))
    {e : AEx} {st : St} (next : LoopSC cfg.P 1 (lb P_impl_node_kinds 0) (impl_node_kinds_L0a x3 x10 x11 (IntKind.wrap .i64 (x12 + (1 : Int))) (xo4 ++ ([(⟨#[76, 76]⟩ : ByteArray)] : List ByteArray))) e st) :
    LoopSC cfg.P 1 (lb P_impl_node_kinds 0) (impl_node_kinds_L0a x3 x10 x11 x12 xo4) e st :=
  loop_iter cfgOK (f := i_impl_node_kinds) (its := [.bool true, .bool false, .bool true])
    (ps := [decide (x12 < x11) = true,
      0 ≤ x12,
      x12 < (List.length x10 : Int),
      (x12 == (0 : Int)) = false,
      ((List.getD x10 (x12).toNat ((0 : Int), false)).1 == (0 : Int)) = true,
      sizeOK (List.length xo4 + List.length ([(⟨#[76, 76]⟩ : ByteArray)] : List ByteArray))]) (st1 := impl_node_kinds_L0a x3 x10 x11 (IntKind.wrap .i64 (x12 + (1 : Int))) (xo4 ++ ([(⟨#[76, 76]⟩ : ByteArray)] : List ByteArray))) (by kernel_rfl) ⟨(decide_eq_true h1), h2, h3, (beq_f h4), (beq_t h5), h6, trivial⟩ next

theorem impl_node_kinds_L0a_i3 (x3 : (List (Int × Bool))) (x10 : (List (Int × Bool))) (x11 : Int) (x12 : Int) (xo4 : (List ByteArray))
    (h1 : x12 < x11)
    (h2 : 0 ≤ x12)
    (h3 : x12 < (List.length x10 : Int))
    (h4 : x12 ≠ (0 : Int))
    (h5 : (List.getD x10 (x12).toNat ((0 : Int), false)).1 ≠ (0 : Int))
    (h6 : (List.getD x10 (x12).toNat ((0 : Int), false)).1 = (1 : Int))
    (h7 : x12 ≤ (List.length x3 : Int))
    (h8 : SC cfg.P i_slices_ContainsFunc_loopexampleg01161implmark [.s (.v (.sl (.pr (.int .i64) .bool)) (cutL x3 x12 ((List.length x3 : Nat) : Int))), .fn i_impl_node_kinds_k1 [] []] (.s (.v .bool true)) [])
    (h9 : 0 ≤ (IntKind.wrap .i64 (x12 + (1 : Int))))
    (h10 : (IntKind.wrap .i64 (x12 + (1 : Int))) < (List.length x3 : Int))
    (h11 : (List.getD x3 ((IntKind.wrap .i64 (x12 + (1 : Int)))).toNat ((0 : Int), false)).1 = (2 : Int))
    (h12 : sizeOK (List.length xo4 + List.length ([(⟨#[82, 73]⟩ : ByteArray)] : List ByteArray)))
    {e : AEx} {st : St} (next : LoopSC cfg.P 1 (lb P_impl_node_kinds 0) (impl_node_kinds_L0a x3 x10 x11 (IntKind.wrap .i64 (x12 + (1 : Int))) (xo4 ++ ([(⟨#[82, 73]⟩ : ByteArray)] : List ByteArray))) e st) :
    LoopSC cfg.P 1 (lb P_impl_node_kinds 0) (impl_node_kinds_L0a x3 x10 x11 x12 xo4) e st :=
  loop_iter cfgOK (f := i_impl_node_kinds) (its := [.bool true, .bool false, .bool false, .bool true, .res (.s (.v .bool true)) [] [] [], .bool true])
    (ps := [decide (x12 < x11) = true,
      0 ≤ x12,
      x12 < (List.length x10 : Int),
      (x12 == (0 : Int)) = false,
      ((List.getD x10 (x12).toNat ((0 : Int), false)).1 == (0 : Int)) = false,
      ((List.getD x10 (x12).toNat ((0 : Int), false)).1 == (1 : Int)) = true,
      0 ≤ x12,
      x12 ≤ (List.length x3 : Int),
      SC cfg.P i_slices_ContainsFunc_loopexampleg01161implmark [.s (.v (.sl (.pr (.int .i64) .bool)) (cutL x3 x12 ((List.length x3 : Nat) : Int))), .fn i_impl_node_kinds_k1 [] []] (.s (.v .bool true)) [],
      0 ≤ (IntKind.wrap .i64 (x12 + (1 : Int))),
      (IntKind.wrap .i64 (x12 + (1 : Int))) < (List.length x3 : Int),
      ((List.getD x3 ((IntKind.wrap .i64 (x12 + (1 : Int)))).toNat ((0 : Int), false)).1 == (2 : Int)) = true,
      sizeOK (List.length xo4 + List.length ([(⟨#[82, 73]⟩ : ByteArray)] : List ByteArray))]) (st1 := impl_node_kinds_L0a x3 x10 x11 (IntKind.wrap .i64 (x12 + (1 : Int))) (xo4 ++ ([(⟨#[82, 73]⟩ : ByteArray)] : List ByteArray))) (by kernel_rfl) ⟨(decide_eq_true h1), h2, h3, (beq_f h4), (beq_f h5), (beq_t h6), h2, h7, h8, h9, h10, (beq_t h11), h12, trivial⟩ next

theorem impl_node_kinds_L0a_i4 (x3 : (List (Int × Bool))) (x10 : (List (Int × Bool))) (x11 : Int) (x12 : Int) (xo4 : (List ByteArray))
    (h1 : x12 < x11)
    (h2 : 0 ≤ x12)
    (h3 : x12 < (List.length x10 : Int))
    (h4 : x12 ≠ (0 : Int))
    (h5 : (List.getD x10 (x12).toNat ((0 : Int), false)).1 ≠ (0 : Int))
    (h6 : (List.getD x10 (x12).toNat ((0 : Int), false)).1 = (1 : Int))
    (h7 : x12 ≤ (List.length x3 : Int))
    (h8 : SC cfg.P i_slices_ContainsFunc_loopexampleg01161implmark [.s (.v (.sl (.pr (.int .i64) .bool)) (cutL x3 x12 ((List.length x3 : Nat) : Int))), .fn i_impl_node_kinds_k1 [] []] (.s (.v .bool true)) [])
    (h9 : 0 ≤ (IntKind.wrap .i64 (x12 + (1 : Int))))
    (h10 : (IntKind.wrap .i64 (x12 + (1 : Int))) < (List.length x3 : Int))
    (h11 : (List.getD x3 ((IntKind.wrap .i64 (x12 + (1 : Int)))).toNat ((0 : Int), false)).1 ≠ (2 : Int))
    (h12 : sizeOK (List.length xo4 + List.length ([(⟨#[82, 78]⟩ : ByteArray)] : List ByteArray)))
    {e : AEx} {st : St} (next : LoopSC cfg.P 1 (lb P_impl_node_kinds 0) (impl_node_kinds_L0a x3 x10 x11 (IntKind.wrap .i64 (x12 + (1 : Int))) (xo4 ++ ([(⟨#[82, 78]⟩ : ByteArray)] : List ByteArray))) e st) :
    LoopSC cfg.P 1 (lb P_impl_node_kinds 0) (impl_node_kinds_L0a x3 x10 x11 x12 xo4) e st :=
  loop_iter cfgOK (f := i_impl_node_kinds) (its := [.bool true, .bool false, .bool false, .bool true, .res (.s (.v .bool true)) [] [] [], .bool false])
    (ps := [decide (x12 < x11) = true,
      0 ≤ x12,
      x12 < (List.length x10 : Int),
      (x12 == (0 : Int)) = false,
      ((List.getD x10 (x12).toNat ((0 : Int), false)).1 == (0 : Int)) = false,
      ((List.getD x10 (x12).toNat ((0 : Int), false)).1 == (1 : Int)) = true,
      0 ≤ x12,
      x12 ≤ (List.length x3 : Int),
      SC cfg.P i_slices_ContainsFunc_loopexampleg01161implmark [.s (.v (.sl (.pr (.int .i64) .bool)) (cutL x3 x12 ((List.length x3 : Nat) : Int))), .fn i_impl_node_kinds_k1 [] []] (.s (.v .bool true)) [],
      0 ≤ (IntKind.wrap .i64 (x12 + (1 : Int))),
      (IntKind.wrap .i64 (x12 + (1 : Int))) < (List.length x3 : Int),
      ((List.getD x3 ((IntKind.wrap .i64 (x12 + (1 : Int)))).toNat ((0 : Int), false)).1 == (2 : Int)) = false,
      sizeOK (List.length xo4 + List.length ([(⟨#[82, 78]⟩ : ByteArray)] : List ByteArray))]) (st1 := impl_node_kinds_L0a x3 x10 x11 (IntKind.wrap .i64 (x12 + (1 : Int))) (xo4 ++ ([(⟨#[82, 78]⟩ : ByteArray)] : List ByteArray))) (by kernel_rfl) ⟨(decide_eq_true h1), h2, h3, (beq_f h4), (beq_f h5), (beq_t h6), h2, h7, h8, h9, h10, (beq_f h11), h12, trivial⟩ next

theorem impl_node_kinds_L0a_i5 (x3 : (List (Int × Bool))) (x10 : (List (Int × Bool))) (x11 : Int) (x12 : Int) (xo4 : (List ByteArray))
    (h1 : x12 < x11)
    (h2 : 0 ≤ x12)
    (h3 : x12 < (List.length x10 : Int))
    (h4 : x12 ≠ (0 : Int))
    (h5 : (List.getD x10 (x12).toNat ((0 : Int), false)).1 ≠ (0 : Int))
    (h6 : (List.getD x10 (x12).toNat ((0 : Int), false)).1 = (1 : Int))
    (h7 : x12 ≤ (List.length x3 : Int))
    (h8 : SC cfg.P i_slices_ContainsFunc_loopexampleg01161implmark [.s (.v (.sl (.pr (.int .i64) .bool)) (cutL x3 x12 ((List.length x3 : Nat) : Int))), .fn i_impl_node_kinds_k1 [] []] (.s (.v .bool false)) [])
    (h9 : sizeOK (List.length xo4 + List.length ([(⟨#[82, 48]⟩ : ByteArray)] : List ByteArray)))
    {e : AEx} {st : St} (next : LoopSC cfg.P 1 (lb P_impl_node_kinds 0) (impl_node_kinds_L0a x3 x10 x11 (IntKind.wrap .i64 (x12 + (1 : Int))) (xo4 ++ ([(⟨#[82, 48]⟩ : ByteArray)] : List ByteArray))) e st) :
    LoopSC cfg.P 1 (lb P_impl_node_kinds 0) (impl_node_kinds_L0a x3 x10 x11 x12 xo4) e st :=
  loop_iter cfgOK (f := i_impl_node_kinds) (its := [.bool true, .bool false, .bool false, .bool true, .res (.s (.v .bool false)) [] [] []])
    (ps := [decide (x12 < x11) = true,
      0 ≤ x12,
      x12 < (List.length x10 : Int),
      (x12 == (0 : Int)) = false,
      ((List.getD x10 (x12).toNat ((0 : Int), false)).1 == (0 : Int)) = false,
      ((List.getD x10 (x12).toNat ((0 : Int), false)).1 == (1 : Int)) = true,
      0 ≤ x12,
      x12 ≤ (List.length x3 : Int),
      SC cfg.P i_slices_ContainsFunc_loopexampleg01161implmark [.s (.v (.sl (.pr (.int .i64) .bool)) (cutL x3 x12 ((List.length x3 : Nat) : Int))), .fn i_impl_node_kinds_k1 [] []] (.s (.v .bool false)) [],
      sizeOK (List.length xo4 + List.length ([(⟨#[82, 48]⟩ : ByteArray)] : List ByteArray))]) (st1 := impl_node_kinds_L0a x3 x10 x11 (IntKind.wrap .i64 (x12 + (1 : Int))) (xo4 ++ ([(⟨#[82, 48]⟩ : ByteArray)] : List ByteArray))) (by kernel_rfl) ⟨(decide_eq_true h1), h2, h3, (beq_f h4), (beq_f h5), (beq_t h6), h2, h7, h8, h9, trivial⟩ next

theorem impl_node_kinds_L0a_i6 (x3 : (List (Int × Bool))) (x10 : (List (Int × Bool))) (x11 : Int) (x12 : Int) (xo4 : (List ByteArray))
    (h1 : x12 < x11)
    (h2 : 0 ≤ x12)
    (h3 : x12 < (List.length x10 : Int))
    (h4 : x12 ≠ (0 : Int))
    (h5 : (List.getD x10 (x12).toNat ((0 : Int), false)).1 ≠ (0 : Int))
    (h6 : (List.getD x10 (x12).toNat ((0 : Int), false)).1 ≠ (1 : Int))
    (h7 : (List.getD x10 (x12).toNat ((0 : Int), false)).2 = true)
    (h8 : sizeOK (List.length xo4 + List.length ([(⟨#[73, 48]⟩ : ByteArray)] : List ByteArray)))
    {e : AEx} {st : St} (next : LoopSC cfg.P 1 (lb P_impl_node_kinds 0) (impl_node_kinds_L0a x3 x10 x11 (IntKind.wrap .i64 (x12 + (1 : Int))) (xo4 ++ ([(⟨#[73, 48]⟩ : ByteArray)] : List ByteArray))) e st) :
    LoopSC cfg.P 1 (lb P_impl_node_kinds 0) (impl_node_kinds_L0a x3 x10 x11 x12 xo4) e st :=
  loop_iter cfgOK (f := i_impl_node_kinds) (its := [.bool true, .bool false, .bool false, .bool false, .bool true])
    (ps := [decide (x12 < x11) = true,
      0 ≤ x12,
      x12 < (List.length x10 : Int),
      (x12 == (0 : Int)) = false,
      ((List.getD x10 (x12).toNat ((0 : Int), false)).1 == (0 : Int)) = false,
      ((List.getD x10 (x12).toNat ((0 : Int), false)).1 == (1 : Int)) = false,
      (List.getD x10 (x12).toNat ((0 : Int), false)).2 = true,
      sizeOK (List.length xo4 + List.length ([(⟨#[73, 48]⟩ : ByteArray)] : List ByteArray))]) (st1 := impl_node_kinds_L0a x3 x10 x11 (IntKind.wrap .i64 (x12 + (1 : Int))) (xo4 ++ ([(⟨#[73, 48]⟩ : ByteArray)] : List ByteArray))) (by kernel_rfl) ⟨(decide_eq_true h1), h2, h3, (beq_f h4), (beq_f h5), (beq_f h6), h7, h8, trivial⟩ next

theorem impl_node_kinds_L0a_i7 (x3 : (List (Int × Bool))) (x10 : (List (Int × Bool))) (x11 : Int) (x12 : Int) (xo4 : (List ByteArray))
    (h1 : x12 < x11)
    (h2 : 0 ≤ x12)
    (h3 : x12 < (List.length x10 : Int))
    (h4 : x12 ≠ (0 : Int))
    (h5 : (List.getD x10 (x12).toNat ((0 : Int), false)).1 ≠ (0 : Int))
    (h6 : (List.getD x10 (x12).toNat ((0 : Int), false)).1 ≠ (1 : Int))
    (h7 : (List.getD x10 (x12).toNat ((0 : Int), false)).2 = false)
    (h8 : sizeOK (List.length xo4 + List.length ([(⟨#[73, 82]⟩ : ByteArray)] : List ByteArray)))
    {e : AEx} {st : St} (next : LoopSC cfg.P 1 (lb P_impl_node_kinds 0) (impl_node_kinds_L0a x3 x10 x11 (IntKind.wrap .i64 (x12 + (1 : Int))) (xo4 ++ ([(⟨#[73, 82]⟩ : ByteArray)] : List ByteArray))) e st) :
    LoopSC cfg.P 1 (lb P_impl_node_kinds 0) (impl_node_kinds_L0a x3 x10 x11 x12 xo4) e st :=
  loop_iter cfgOK (f := i_impl_node_kinds) (its := [.bool true, .bool false, .bool false, .bool false, .bool false])
    (ps := [decide (x12 < x11) = true,
      0 ≤ x12,
      x12 < (List.length x10 : Int),
      (x12 == (0 : Int)) = false,
      ((List.getD x10 (x12).toNat ((0 : Int), false)).1 == (0 : Int)) = false,
      ((List.getD x10 (x12).toNat ((0 : Int), false)).1 == (1 : Int)) = false,
      (List.getD x10 (x12).toNat ((0 : Int), false)).2 = false,
      sizeOK (List.length xo4 + List.length ([(⟨#[73, 82]⟩ : ByteArray)] : List ByteArray))]) (st1 := impl_node_kinds_L0a x3 x10 x11 (IntKind.wrap .i64 (x12 + (1 : Int))) (xo4 ++ ([(⟨#[73, 82]⟩ : ByteArray)] : List ByteArray))) (by kernel_rfl) ⟨(decide_eq_true h1), h2, h3, (beq_f h4), (beq_f h5), (beq_f h6), h7, h8, trivial⟩ next

theorem impl_node_kinds_L0a_x8 (x3 : (List (Int × Bool))) (x10 : (List (Int × Bool))) (x11 : Int) (x12 : Int) (xo4 : (List ByteArray))
    (h1 : ¬ (x12 < x11)) :
    LoopSC cfg.P 1 (lb P_impl_node_kinds 0) (impl_node_kinds_L0a x3 x10 x11 x12 xo4) (.exit 0) (impl_node_kinds_L0X1 x3 x10 x11 x12 false xo4) :=
  loop_out cfgOK (f := i_impl_node_kinds) (its := [.bool false])
    (ps := [decide (x12 < x11) = false]) (by kernel_rfl) ⟨(decide_eq_false h1), trivial⟩ (fun h => by cases h)

theorem impl_node_kinds_p1 (a0 : Tr) (c1 : (List (Int × Bool))) (k1y3 : (List (Int × Bool))) (k1y10 : (List (Int × Bool))) (k1y11 : Int) (k1y12 : Int) (k1y13 : Bool) (k1yo4 : (List ByteArray))
    (h1 : SC cfg.P i_impl_node_marks [.s (.v .tree a0), .s (.v (.int .i64) (0 : Int)), .s (.v .bool true)] (.s (.v (.sl (.pr (.int .i64) .bool)) c1)) [])
    (h2 : LoopSC cfg.P 1 (lb P_impl_node_kinds 0) (impl_node_kinds_L0a c1 c1 ((List.length c1 : Nat) : Int) (0 : Int) ([] : List ByteArray)) (.exit 0) (impl_node_kinds_L0X1 k1y3 k1y10 k1y11 k1y12 k1y13 k1yo4)) :
    SC cfg.P i_impl_node_kinds [.s (.v .tree a0)] (.s (.own t_string .str k1yo4)) [] :=
  SC_of_run cfgOK (its := [.res (.s (.v (.sl (.pr (.int .i64) .bool)) c1)) [] [] [], .loop (fun _ => (.exit 0, impl_node_kinds_L0X1 k1y3 k1y10 k1y11 k1y12 k1y13 k1yo4))])
    (ps := [SC cfg.P i_impl_node_marks [.s (.v .tree a0), .s (.v (.int .i64) (0 : Int)), .s (.v .bool true)] (.s (.v (.sl (.pr (.int .i64) .bool)) c1)) [],
      LoopSC cfg.P 1 (lb P_impl_node_kinds 0) (impl_node_kinds_L0a c1 c1 ((List.length c1 : Nat) : Int) (0 : Int) ([] : List ByteArray)) (.exit 0) (impl_node_kinds_L0X1 k1y3 k1y10 k1y11 k1y12 k1y13 k1yo4)]) (by kernel_rfl) ⟨h1, h2, trivial⟩ get_impl_node_kinds (by decide)

/-! ### spec_lnKinds -/


def spec_lnKinds_L0a (x6 : Bool) (x7 : Int) (xo16 : (List ByteArray)) : St := mkSt 64 [(5, .s (.osl 16 0)), (6, .s (.v .bool x6)), (7, .s (.v (.int .i64) x7))] [(16, .row t_string .str xo16 0 false)]

def spec_lnKinds_L0X1 (y6 : Bool) (y7 : Int) (y28 : Bool) (yo16 : (List ByteArray)) : St := mkSt 64 [(5, .s (.osl 16 0)), (6, .s (.v .bool y6)), (7, .s (.v (.int .i64) y7)), (28, .s (.v .bool y28))] [(16, .row t_string .str yo16 0 false)]

theorem spec_lnKinds_L0a_i1 (x6 : Bool) (x7 : Int) (xo16 : (List ByteArray))
    (h1 : x7 ≥ (0 : Int))
    (h2 : 0 ≤ x7)
    (h3 : x7 < (List.length xo16 : Int))
    (h4 : (x7).toNat < List.length xo16)
    (h5 : (List.getD xo16 (x7).toNat (⟨#[]⟩ : ByteArray)) ≠ (⟨#[82]⟩ : ByteArray))
    {e : AEx} {st : St} (next : LoopSC cfg.P 1 (lb P_spec_lnKinds 0) (spec_lnKinds_L0a false (IntKind.wrap .i64 (x7 - (1 : Int))) xo16) e st) :
    LoopSC cfg.P 1 (lb P_spec_lnKinds 0) (spec_lnKinds_L0a x6 x7 xo16) e st :=
  loop_iter cfgOK (f := i_spec_lnKinds) (its := [.bool true, .bool true])
    (ps := [decide (x7 ≥ (0 : Int)) = true,
      0 ≤ x7,
      x7 < (List.length xo16 : Int),
      (x7).toNat < List.length xo16,
      (!(((List.getD xo16 (x7).toNat (⟨#[]⟩ : ByteArray))).toList == ((⟨#[82]⟩ : ByteArray)).toList)) = true]) (st1 := spec_lnKinds_L0a false (IntKind.wrap .i64 (x7 - (1 : Int))) xo16) (by kernel_rfl) ⟨(decide_eq_true h1), h2, h3, h4, (nseq_t h5), trivial⟩ next

theorem spec_lnKinds_L0a_i2 (x7 : Int) (xo16 : (List ByteArray))
    (h1 : x7 ≥ (0 : Int))
    (h2 : 0 ≤ x7)
    (h3 : x7 < (List.length xo16 : Int))
    (h4 : (x7).toNat < List.length xo16)
    (h5 : (List.getD xo16 (x7).toNat (⟨#[]⟩ : ByteArray)) = (⟨#[82]⟩ : ByteArray))
    {e : AEx} {st : St} (next : LoopSC cfg.P 1 (lb P_spec_lnKinds 0) (spec_lnKinds_L0a true (IntKind.wrap .i64 (x7 - (1 : Int))) (List.set xo16 (x7).toNat (⟨#[82, 48]⟩ : ByteArray))) e st) :
    LoopSC cfg.P 1 (lb P_spec_lnKinds 0) (spec_lnKinds_L0a true x7 xo16) e st :=
  loop_iter cfgOK (f := i_spec_lnKinds) (its := [.bool true, .bool false])
    (ps := [decide (x7 ≥ (0 : Int)) = true,
      0 ≤ x7,
      x7 < (List.length xo16 : Int),
      (x7).toNat < List.length xo16,
      (!(((List.getD xo16 (x7).toNat (⟨#[]⟩ : ByteArray))).toList == ((⟨#[82]⟩ : ByteArray)).toList)) = false,
      0 ≤ x7,
      x7 < (List.length xo16 : Int),
      (x7).toNat < List.length xo16]) (st1 := spec_lnKinds_L0a true (IntKind.wrap .i64 (x7 - (1 : Int))) (List.set xo16 (x7).toNat (⟨#[82, 48]⟩ : ByteArray))) (by kernel_rfl) ⟨(decide_eq_true h1), h2, h3, h4, (nseq_f h5), h2, h3, h4, trivial⟩ next

theorem spec_lnKinds_L0a_i3 (x7 : Int) (xo16 : (List ByteArray))
    (h1 : x7 ≥ (0 : Int))
    (h2 : 0 ≤ x7)
    (h3 : x7 < (List.length xo16 : Int))
    (h4 : (x7).toNat < List.length xo16)
    (h5 : (List.getD xo16 (x7).toNat (⟨#[]⟩ : ByteArray)) = (⟨#[82]⟩ : ByteArray))
    (h6 : 0 ≤ (IntKind.wrap .i64 (x7 + (1 : Int))))
    (h7 : (IntKind.wrap .i64 (x7 + (1 : Int))) < (List.length xo16 : Int))
    (h8 : ((IntKind.wrap .i64 (x7 + (1 : Int)))).toNat < List.length xo16)
    (h9 : (List.getD xo16 ((IntKind.wrap .i64 (x7 + (1 : Int)))).toNat (⟨#[]⟩ : ByteArray)) = (⟨#[73, 48]⟩ : ByteArray))
    {e : AEx} {st : St} (next : LoopSC cfg.P 1 (lb P_spec_lnKinds 0) (spec_lnKinds_L0a false (IntKind.wrap .i64 (x7 - (1 : Int))) (List.set xo16 (x7).toNat (⟨#[82, 73]⟩ : ByteArray))) e st) :
    LoopSC cfg.P 1 (lb P_spec_lnKinds 0) (spec_lnKinds_L0a false x7 xo16) e st :=
  loop_iter cfgOK (f := i_spec_lnKinds) (its := [.bool true, .bool false, .bool true])
    (ps := [decide (x7 ≥ (0 : Int)) = true,
      0 ≤ x7,
      x7 < (List.length xo16 : Int),
      (x7).toNat < List.length xo16,
      (!(((List.getD xo16 (x7).toNat (⟨#[]⟩ : ByteArray))).toList == ((⟨#[82]⟩ : ByteArray)).toList)) = false,
      0 ≤ (IntKind.wrap .i64 (x7 + (1 : Int))),
      (IntKind.wrap .i64 (x7 + (1 : Int))) < (List.length xo16 : Int),
      ((IntKind.wrap .i64 (x7 + (1 : Int)))).toNat < List.length xo16,
      (((List.getD xo16 ((IntKind.wrap .i64 (x7 + (1 : Int)))).toNat (⟨#[]⟩ : ByteArray))).toList == ((⟨#[73, 48]⟩ : ByteArray)).toList) = true,
      0 ≤ x7,
      x7 < (List.length xo16 : Int),
      (x7).toNat < List.length xo16]) (st1 := spec_lnKinds_L0a false (IntKind.wrap .i64 (x7 - (1 : Int))) (List.set xo16 (x7).toNat (⟨#[82, 73]⟩ : ByteArray))) (by kernel_rfl) ⟨(decide_eq_true h1), h2, h3, h4, (nseq_f h5), h6, h7, h8, (seq_t h9), h2, h3, h4, trivial⟩ next

theorem spec_lnKinds_L0a_i4 (x7 : Int) (xo16 : (List ByteArray))
    (h1 : x7 ≥ (0 : Int))
    (h2 : 0 ≤ x7)
    (h3 : x7 < (List.length xo16 : Int))
    (h4 : (x7).toNat < List.length xo16)
    (h5 : (List.getD xo16 (x7).toNat (⟨#[]⟩ : ByteArray)) = (⟨#[82]⟩ : ByteArray))
    (h6 : 0 ≤ (IntKind.wrap .i64 (x7 + (1 : Int))))
    (h7 : (IntKind.wrap .i64 (x7 + (1 : Int))) < (List.length xo16 : Int))
    (h8 : ((IntKind.wrap .i64 (x7 + (1 : Int)))).toNat < List.length xo16)
    (h9 : (List.getD xo16 ((IntKind.wrap .i64 (x7 + (1 : Int)))).toNat (⟨#[]⟩ : ByteArray)) ≠ (⟨#[73, 48]⟩ : ByteArray))
    (h10 : (List.getD xo16 ((IntKind.wrap .i64 (x7 + (1 : Int)))).toNat (⟨#[]⟩ : ByteArray)) = (⟨#[73, 82]⟩ : ByteArray))
    {e : AEx} {st : St} (next : LoopSC cfg.P 1 (lb P_spec_lnKinds 0) (spec_lnKinds_L0a false (IntKind.wrap .i64 (x7 - (1 : Int))) (List.set xo16 (x7).toNat (⟨#[82, 73]⟩ : ByteArray))) e st) :
    LoopSC cfg.P 1 (lb P_spec_lnKinds 0) (spec_lnKinds_L0a false x7 xo16) e st :=
  loop_iter cfgOK (f := i_spec_lnKinds) (its := [.bool true, .bool false, .bool false, .bool true])
    (ps := [decide (x7 ≥ (0 : Int)) = true,
      0 ≤ x7,
      x7 < (List.length xo16 : Int),
      (x7).toNat < List.length xo16,
      (!(((List.getD xo16 (x7).toNat (⟨#[]⟩ : ByteArray))).toList == ((⟨#[82]⟩ : ByteArray)).toList)) = false,
      0 ≤ (IntKind.wrap .i64 (x7 + (1 : Int))),
      (IntKind.wrap .i64 (x7 + (1 : Int))) < (List.length xo16 : Int),
      ((IntKind.wrap .i64 (x7 + (1 : Int)))).toNat < List.length xo16,
      (((List.getD xo16 ((IntKind.wrap .i64 (x7 + (1 : Int)))).toNat (⟨#[]⟩ : ByteArray))).toList == ((⟨#[73, 48]⟩ : ByteArray)).toList) = false,
      0 ≤ (IntKind.wrap .i64 (x7 + (1 : Int))),
      (IntKind.wrap .i64 (x7 + (1 : Int))) < (List.length xo16 : Int),
      ((IntKind.wrap .i64 (x7 + (1 : Int)))).toNat < List.length xo16,
      (((List.getD xo16 ((IntKind.wrap .i64 (x7 + (1 : Int)))).toNat (⟨#[]⟩ : ByteArray))).toList == ((⟨#[73, 82]⟩ : ByteArray)).toList) = true,
      0 ≤ x7,
      x7 < (List.length xo16 : Int),
      (x7).toNat < List.length xo16]) (st1 := spec_lnKinds_L0a false (IntKind.wrap .i64 (x7 - (1 : Int))) (List.set xo16 (x7).toNat (⟨#[82, 73]⟩ : ByteArray))) (by kernel_rfl) ⟨(decide_eq_true h1), h2, h3, h4, (nseq_f h5), h6, h7, h8, (seq_f h9), h6, h7, h8, (seq_t h10), h2, h3, h4, trivial⟩ next

theorem spec_lnKinds_L0a_i5 (x7 : Int) (xo16 : (List ByteArray))
    (h1 : x7 ≥ (0 : Int))
    (h2 : 0 ≤ x7)
    (h3 : x7 < (List.length xo16 : Int))
    (h4 : (x7).toNat < List.length xo16)
    (h5 : (List.getD xo16 (x7).toNat (⟨#[]⟩ : ByteArray)) = (⟨#[82]⟩ : ByteArray))
    (h6 : 0 ≤ (IntKind.wrap .i64 (x7 + (1 : Int))))
    (h7 : (IntKind.wrap .i64 (x7 + (1 : Int))) < (List.length xo16 : Int))
    (h8 : ((IntKind.wrap .i64 (x7 + (1 : Int)))).toNat < List.length xo16)
    (h9 : (List.getD xo16 ((IntKind.wrap .i64 (x7 + (1 : Int)))).toNat (⟨#[]⟩ : ByteArray)) ≠ (⟨#[73, 48]⟩ : ByteArray))
    (h10 : (List.getD xo16 ((IntKind.wrap .i64 (x7 + (1 : Int)))).toNat (⟨#[]⟩ : ByteArray)) ≠ (⟨#[73, 82]⟩ : ByteArray))
    {e : AEx} {st : St} (next : LoopSC cfg.P 1 (lb P_spec_lnKinds 0) (spec_lnKinds_L0a false (IntKind.wrap .i64 (x7 - (1 : Int))) (List.set xo16 (x7).toNat (⟨#[82, 78]⟩ : ByteArray))) e st) :
    LoopSC cfg.P 1 (lb P_spec_lnKinds 0) (spec_lnKinds_L0a false x7 xo16) e st :=
  loop_iter cfgOK (f := i_spec_lnKinds) (its := [.bool true, .bool false, .bool false, .bool false])
    (ps := [decide (x7 ≥ (0 : Int)) = true,
      0 ≤ x7,
      x7 < (List.length xo16 : Int),
      (x7).toNat < List.length xo16,
      (!(((List.getD xo16 (x7).toNat (⟨#[]⟩ : ByteArray))).toList == ((⟨#[82]⟩ : ByteArray)).toList)) = false,
      0 ≤ (IntKind.wrap .i64 (x7 + (1 : Int))),
      (IntKind.wrap .i64 (x7 + (1 : Int))) < (List.length xo16 : Int),
      ((IntKind.wrap .i64 (x7 + (1 : Int)))).toNat < List.length xo16,
      (((List.getD xo16 ((IntKind.wrap .i64 (x7 + (1 : Int)))).toNat (⟨#[]⟩ : ByteArray))).toList == ((⟨#[73, 48]⟩ : ByteArray)).toList) = false,
      0 ≤ (IntKind.wrap .i64 (x7 + (1 : Int))),
      (IntKind.wrap .i64 (x7 + (1 : Int))) < (List.length xo16 : Int),
      ((IntKind.wrap .i64 (x7 + (1 : Int)))).toNat < List.length xo16,
      (((List.getD xo16 ((IntKind.wrap .i64 (x7 + (1 : Int)))).toNat (⟨#[]⟩ : ByteArray))).toList == ((⟨#[73, 82]⟩ : ByteArray)).toList) = false,
      0 ≤ x7,
      x7 < (List.length xo16 : Int),
      (x7).toNat < List.length xo16]) (st1 := spec_lnKinds_L0a false (IntKind.wrap .i64 (x7 - (1 : Int))) (List.set xo16 (x7).toNat (⟨#[82, 78]⟩ : ByteArray))) (by kernel_rfl) ⟨(decide_eq_true h1), h2, h3, h4, (nseq_f h5), h6, h7, h8, (seq_f h9), h6, h7, h8, (seq_f h10), h2, h3, h4, trivial⟩ next

theorem spec_lnKinds_L0a_x6 (x6 : Bool) (x7 : Int) (xo16 : (List ByteArray))
    (h1 : ¬ (x7 ≥ (0 : Int))) :
    LoopSC cfg.P 1 (lb P_spec_lnKinds 0) (spec_lnKinds_L0a x6 x7 xo16) (.exit 0) (spec_lnKinds_L0X1 x6 x7 false xo16) :=
  loop_out cfgOK (f := i_spec_lnKinds) (its := [.bool false])
    (ps := [decide (x7 ≥ (0 : Int)) = false]) (by kernel_rfl) ⟨(decide_eq_false h1), trivial⟩ (fun h => by cases h)

theorem spec_lnKinds_p1 (a0 : ByteArray)
    (h1 : SC cfg.P i_spec_trLeaf [.s (.v .str a0)] (.s (.v .bool true)) []) :
    SC cfg.P i_spec_lnKinds [.s (.v .str a0)] (.s (.own t_string .str ([] : List ByteArray))) [] :=
  SC_of_run cfgOK (its := [.res (.s (.v .bool true)) [] [] []])
    (ps := [SC cfg.P i_spec_trLeaf [.s (.v .str a0)] (.s (.v .bool true)) []]) (by kernel_rfl) ⟨h1, trivial⟩ get_spec_lnKinds (by decide)

theorem spec_lnKinds_p2 (a0 : ByteArray) (c2a : ByteArray) (c2b : ByteArray) (c3 : (List ByteArray)) (c4 : (List ByteArray)) (k1y6 : Bool) (k1y7 : Int) (k1y28 : Bool) (k1yo16 : (List ByteArray))
    (h1 : SC cfg.P i_spec_trLeaf [.s (.v .str a0)] (.s (.v .bool false)) [])
    (h2 : SC cfg.P i_spec_trSides [.s (.v .str a0)] (.tup [.v .str c2a, .v .str c2b]) [])
    (h3 : SC cfg.P i_spec_lnLeft [.s (.v .str c2a)] (.s (.own t_string .str c3)) [])
    (h4 : sizeOK (List.length c3 + List.length ([(⟨#[76, 76]⟩ : ByteArray)] : List ByteArray)))
    (h5 : SC cfg.P i_spec_lnRight [.s (.v .str c2b)] (.s (.own t_string .str c4)) [])
    (h6 : sizeOK (List.length (c3 ++ ([(⟨#[76, 76]⟩ : ByteArray)] : List ByteArray)) + List.length c4))
    (h7 : (0 : Int) < (List.length ((c3 ++ ([(⟨#[76, 76]⟩ : ByteArray)] : List ByteArray)) ++ c4) : Int))
    (h8 : ((0 : Int)).toNat < List.length ((c3 ++ ([(⟨#[76, 76]⟩ : ByteArray)] : List ByteArray)) ++ c4))
    (h9 : LoopSC cfg.P 1 (lb P_spec_lnKinds 0) (spec_lnKinds_L0a true (IntKind.wrap .i64 (((List.length (List.set ((c3 ++ ([(⟨#[76, 76]⟩ : ByteArray)] : List ByteArray)) ++ c4) ((0 : Int)).toNat (⟨#[76, 48]⟩ : ByteArray)) : Nat) : Int) - (1 : Int))) (List.set ((c3 ++ ([(⟨#[76, 76]⟩ : ByteArray)] : List ByteArray)) ++ c4) ((0 : Int)).toNat (⟨#[76, 48]⟩ : ByteArray))) (.exit 0) (spec_lnKinds_L0X1 k1y6 k1y7 k1y28 k1yo16)) :
    SC cfg.P i_spec_lnKinds [.s (.v .str a0)] (.s (.own t_string .str k1yo16)) [] :=
  SC_of_run cfgOK (its := [.res (.s (.v .bool false)) [] [] [], .res (.tup [.v .str c2a, .v .str c2b]) [] [] [], .res (.s (.own t_string .str c3)) [] [] [16], .res (.s (.own t_string .str c4)) [] [] [20], .loop (fun _ => (.exit 0, spec_lnKinds_L0X1 k1y6 k1y7 k1y28 k1yo16))])
    (ps := [SC cfg.P i_spec_trLeaf [.s (.v .str a0)] (.s (.v .bool false)) [],
      SC cfg.P i_spec_trSides [.s (.v .str a0)] (.tup [.v .str c2a, .v .str c2b]) [],
      SC cfg.P i_spec_lnLeft [.s (.v .str c2a)] (.s (.own t_string .str c3)) [],
      sizeOK (List.length c3 + List.length ([(⟨#[76, 76]⟩ : ByteArray)] : List ByteArray)),
      SC cfg.P i_spec_lnRight [.s (.v .str c2b)] (.s (.own t_string .str c4)) [],
      sizeOK (List.length (c3 ++ ([(⟨#[76, 76]⟩ : ByteArray)] : List ByteArray)) + List.length c4),
      0 ≤ (0 : Int),
      (0 : Int) < (List.length ((c3 ++ ([(⟨#[76, 76]⟩ : ByteArray)] : List ByteArray)) ++ c4) : Int),
      ((0 : Int)).toNat < List.length ((c3 ++ ([(⟨#[76, 76]⟩ : ByteArray)] : List ByteArray)) ++ c4),
      LoopSC cfg.P 1 (lb P_spec_lnKinds 0) (spec_lnKinds_L0a true (IntKind.wrap .i64 (((List.length (List.set ((c3 ++ ([(⟨#[76, 76]⟩ : ByteArray)] : List ByteArray)) ++ c4) ((0 : Int)).toNat (⟨#[76, 48]⟩ : ByteArray)) : Nat) : Int) - (1 : Int))) (List.set ((c3 ++ ([(⟨#[76, 76]⟩ : ByteArray)] : List ByteArray)) ++ c4) ((0 : Int)).toNat (⟨#[76, 48]⟩ : ByteArray))) (.exit 0) (spec_lnKinds_L0X1 k1y6 k1y7 k1y28 k1yo16)]) (by kernel_rfl) ⟨h1, h2, h3, h4, h5, h6, (by decide), h7, h8, h9, trivial⟩ get_spec_lnKinds (by decide)

/-! ### impl_pair_length -/


def impl_pair_length_L0a (x4 : Int) (x17 : Int) (x18 : Int) (xo13 : (List ByteArray)) (xo16 : (List ByteArray)) : St := mkSt 37 [(3, .s (.osl 13 0)), (4, .s (.v (.int .i64) x4)), (16, .s (.osl 16 0)), (17, .s (.v (.int .i64) x17)), (18, .s (.v (.int .i64) x18))] [(13, .row t_string .str xo13 0 false), (16, .row t_string .str xo16 0 false)]

def impl_pair_length_L0X1 (y4 : Int) (y17 : Int) (y18 : Int) (y19 : Bool) (yo13 : (List ByteArray)) (yo16 : (List ByteArray)) : St := mkSt 37 [(3, .s (.osl 13 0)), (4, .s (.v (.int .i64) y4)), (16, .s (.osl 16 0)), (17, .s (.v (.int .i64) y17)), (18, .s (.v (.int .i64) y18)), (19, .s (.v .bool y19))] [(13, .row t_string .str yo13 0 false), (16, .row t_string .str yo16 0 false)]

theorem impl_pair_length_L0a_i1 (x4 : Int) (x17 : Int) (x18 : Int) (xo13 : (List ByteArray)) (xo16 : (List ByteArray)) (dc1a : Int) (dc1b : Bool)
    (h1 : x18 < x17)
    (h2 : 0 ≤ x18)
    (h3 : x18 < (List.length xo16 : Int))
    (h4 : (x18).toNat < List.length xo16)
    (h5 : x18 < (List.length xo13 : Int))
    (h6 : (x18).toNat < List.length xo13)
    (h7 : SC cfg.P i_impl_KindLength [.s (.v .str (List.getD xo16 (x18).toNat (⟨#[]⟩ : ByteArray))), .s (.v .str (List.getD xo13 (x18).toNat (⟨#[]⟩ : ByteArray)))] (.tup [.v (.int .i64) dc1a, .v .bool dc1b]) [])
    {e : AEx} {st : St} (next : LoopSC cfg.P 1 (lb P_impl_pair_length 0) (impl_pair_length_L0a (IntKind.wrap .i64 (x4 + dc1a)) x17 (IntKind.wrap .i64 (x18 + (1 : Int))) xo13 xo16) e st) :
    LoopSC cfg.P 1 (lb P_impl_pair_length 0) (impl_pair_length_L0a x4 x17 x18 xo13 xo16) e st :=
  loop_iter cfgOK (f := i_impl_pair_length) (its := [.bool true, .res (.tup [.v (.int .i64) dc1a, .v .bool dc1b]) [] [] []])
    (ps := [decide (x18 < x17) = true,
      0 ≤ x18,
      x18 < (List.length xo16 : Int),
      (x18).toNat < List.length xo16,
      0 ≤ x18,
      x18 < (List.length xo13 : Int),
      (x18).toNat < List.length xo13,
      SC cfg.P i_impl_KindLength [.s (.v .str (List.getD xo16 (x18).toNat (⟨#[]⟩ : ByteArray))), .s (.v .str (List.getD xo13 (x18).toNat (⟨#[]⟩ : ByteArray)))] (.tup [.v (.int .i64) dc1a, .v .bool dc1b]) []]) (st1 := impl_pair_length_L0a (IntKind.wrap .i64 (x4 + dc1a)) x17 (IntKind.wrap .i64 (x18 + (1 : Int))) xo13 xo16) (by kernel_rfl) ⟨(decide_eq_true h1), h2, h3, h4, h2, h5, h6, h7, trivial⟩ next

theorem impl_pair_length_L0a_x2 (x4 : Int) (x17 : Int) (x18 : Int) (xo13 : (List ByteArray)) (xo16 : (List ByteArray))
    (h1 : ¬ (x18 < x17)) :
    LoopSC cfg.P 1 (lb P_impl_pair_length 0) (impl_pair_length_L0a x4 x17 x18 xo13 xo16) (.exit 0) (impl_pair_length_L0X1 x4 x17 x18 false xo13 xo16) :=
  loop_out cfgOK (f := i_impl_pair_length) (its := [.bool false])
    (ps := [decide (x18 < x17) = false]) (by kernel_rfl) ⟨(decide_eq_false h1), trivial⟩ (fun h => by cases h)

theorem impl_pair_length_p1 (a0 : (Tr × Tr)) (c1 : (Tr × Tr)) (c2 : (List ByteArray)) (c3 : (List ByteArray)) (k1y4 : Int) (k1y17 : Int) (k1y18 : Int) (k1y19 : Bool) (k1yo13 : (List ByteArray)) (k1yo16 : (List ByteArray))
    (h1 : SC cfg.P i_impl_pair_reduced [.s (.v (.pr .tree .tree) a0)] (.s (.v (.pr .tree .tree) c1)) [])
    (h2 : SC cfg.P i_impl_node_kinds [.s (.v .tree c1.2)] (.s (.own t_string .str c2)) [])
    (h3 : SC cfg.P i_impl_node_kinds [.s (.v .tree c1.1)] (.s (.own t_string .str c3)) [])
    (h4 : LoopSC cfg.P 1 (lb P_impl_pair_length 0) (impl_pair_length_L0a (0 : Int) ((List.length c3 : Nat) : Int) (0 : Int) c2 c3) (.exit 0) (impl_pair_length_L0X1 k1y4 k1y17 k1y18 k1y19 k1yo13 k1yo16)) :
    SC cfg.P i_impl_pair_length [.s (.v (.pr .tree .tree) a0)] (.s (.v (.int .i64) k1y4)) [] :=
  SC_of_run cfgOK (its := [.res (.s (.v (.pr .tree .tree) c1)) [] [] [], .res (.s (.own t_string .str c2)) [] [] [13], .res (.s (.own t_string .str c3)) [] [] [16], .loop (fun _ => (.exit 0, impl_pair_length_L0X1 k1y4 k1y17 k1y18 k1y19 k1yo13 k1yo16))])
    (ps := [SC cfg.P i_impl_pair_reduced [.s (.v (.pr .tree .tree) a0)] (.s (.v (.pr .tree .tree) c1)) [],
      SC cfg.P i_impl_node_kinds [.s (.v .tree c1.2)] (.s (.own t_string .str c2)) [],
      SC cfg.P i_impl_node_kinds [.s (.v .tree c1.1)] (.s (.own t_string .str c3)) [],
      LoopSC cfg.P 1 (lb P_impl_pair_length 0) (impl_pair_length_L0a (0 : Int) ((List.length c3 : Nat) : Int) (0 : Int) c2 c3) (.exit 0) (impl_pair_length_L0X1 k1y4 k1y17 k1y18 k1y19 k1yo13 k1yo16)]) (by kernel_rfl) ⟨h1, h2, h3, h4, trivial⟩ get_impl_pair_length (by decide)

/-! ### spec_lnTable -/


theorem spec_lnTable_p1 (a0 : ByteArray) (a1 : ByteArray)
    (h1 : a0 = (⟨#[76, 48]⟩ : ByteArray))
    (h2 : a1 = (⟨#[76, 48]⟩ : ByteArray)) :
    SC cfg.P i_spec_lnTable [.s (.v .str a0), .s (.v .str a1)] (.tup [.v (.int .i64) (0 : Int), .v .bool true]) [] :=
  SC_of_run cfgOK (its := [.bool true, .bool true])
    (ps := [((a0).toList == ((⟨#[76, 48]⟩ : ByteArray)).toList) = true,
      ((a1).toList == ((⟨#[76, 48]⟩ : ByteArray)).toList) = true]) (by kernel_rfl) ⟨(seq_t h1), (seq_t h2), trivial⟩ get_spec_lnTable (by decide)

theorem spec_lnTable_p2 (a0 : ByteArray) (a1 : ByteArray) (c1 : Int) (c2 : Int)
    (h1 : a0 = (⟨#[76, 48]⟩ : ByteArray))
    (h2 : a1 ≠ (⟨#[76, 48]⟩ : ByteArray))
    (h3 : SC cfg.P i_spec_lnRow [.s (.v .str a0)] (.s (.v (.int .i64) c1)) [])
    (h4 : SC cfg.P i_spec_lnRow [.s (.v .str a1)] (.s (.v (.int .i64) c2)) [])
    (h5 : c1 < (0 : Int)) :
    SC cfg.P i_spec_lnTable [.s (.v .str a0), .s (.v .str a1)] (.tup [.v (.int .i64) (0 : Int), .v .bool false]) [] :=
  SC_of_run cfgOK (its := [.bool true, .bool false, .res (.s (.v (.int .i64) c1)) [] [] [], .res (.s (.v (.int .i64) c2)) [] [] [], .bool true])
    (ps := [((a0).toList == ((⟨#[76, 48]⟩ : ByteArray)).toList) = true,
      ((a1).toList == ((⟨#[76, 48]⟩ : ByteArray)).toList) = false,
      SC cfg.P i_spec_lnRow [.s (.v .str a0)] (.s (.v (.int .i64) c1)) [],
      SC cfg.P i_spec_lnRow [.s (.v .str a1)] (.s (.v (.int .i64) c2)) [],
      decide (c1 < (0 : Int)) = true]) (by kernel_rfl) ⟨(seq_t h1), (seq_f h2), h3, h4, (decide_eq_true h5), trivial⟩ get_spec_lnTable (by decide)

theorem spec_lnTable_p3 (a0 : ByteArray) (a1 : ByteArray) (c1 : Int) (c2 : Int)
    (h1 : a0 = (⟨#[76, 48]⟩ : ByteArray))
    (h2 : a1 ≠ (⟨#[76, 48]⟩ : ByteArray))
    (h3 : SC cfg.P i_spec_lnRow [.s (.v .str a0)] (.s (.v (.int .i64) c1)) [])
    (h4 : SC cfg.P i_spec_lnRow [.s (.v .str a1)] (.s (.v (.int .i64) c2)) [])
    (h5 : ¬ (c1 < (0 : Int)))
    (h6 : c2 < (0 : Int)) :
    SC cfg.P i_spec_lnTable [.s (.v .str a0), .s (.v .str a1)] (.tup [.v (.int .i64) (0 : Int), .v .bool false]) [] :=
  SC_of_run cfgOK (its := [.bool true, .bool false, .res (.s (.v (.int .i64) c1)) [] [] [], .res (.s (.v (.int .i64) c2)) [] [] [], .bool false, .bool true])
    (ps := [((a0).toList == ((⟨#[76, 48]⟩ : ByteArray)).toList) = true,
      ((a1).toList == ((⟨#[76, 48]⟩ : ByteArray)).toList) = false,
      SC cfg.P i_spec_lnRow [.s (.v .str a0)] (.s (.v (.int .i64) c1)) [],
      SC cfg.P i_spec_lnRow [.s (.v .str a1)] (.s (.v (.int .i64) c2)) [],
      decide (c1 < (0 : Int)) = false,
      decide (c2 < (0 : Int)) = true]) (by kernel_rfl) ⟨(seq_t h1), (seq_f h2), h3, h4, (decide_eq_false h5), (decide_eq_true h6), trivial⟩ get_spec_lnTable (by decide)

theorem spec_lnTable_p4 (a0 : ByteArray) (a1 : ByteArray) (c1 : Int) (c2 : Int)
    (h1 : a0 = (⟨#[76, 48]⟩ : ByteArray))
    (h2 : a1 ≠ (⟨#[76, 48]⟩ : ByteArray))
    (h3 : SC cfg.P i_spec_lnRow [.s (.v .str a0)] (.s (.v (.int .i64) c1)) [])
    (h4 : SC cfg.P i_spec_lnRow [.s (.v .str a1)] (.s (.v (.int .i64) c2)) [])
    (h5 : ¬ (c1 < (0 : Int)))
    (h6 : ¬ (c2 < (0 : Int)))
    (h7 : 0 ≤ c1)
    (h8 : c1 < (List.length ([([(0 : Int), (2 : Int), (2 : Int), (1 : Int), (1 : Int), (3 : Int)] : List Int), ([(2 : Int), (2 : Int), (2 : Int), (1 : Int), (1 : Int), (3 : Int)] : List Int), ([(2 : Int), (2 : Int), (2 : Int), (1 : Int), (3 : Int), (3 : Int)] : List Int), ([(1 : Int), (1 : Int), (1 : Int), (2 : Int), (2 : Int), (2 : Int)] : List Int), ([(1 : Int), (1 : Int), (3 : Int), (2 : Int), (2 : Int), (4 : Int)] : List Int), ([(3 : Int), (3 : Int), (3 : Int), (2 : Int), (4 : Int), (4 : Int)] : List Int)] : List (List Int)) : Int))
    (h9 : (c1).toNat < List.length ([([(0 : Int), (2 : Int), (2 : Int), (1 : Int), (1 : Int), (3 : Int)] : List Int), ([(2 : Int), (2 : Int), (2 : Int), (1 : Int), (1 : Int), (3 : Int)] : List Int), ([(2 : Int), (2 : Int), (2 : Int), (1 : Int), (3 : Int), (3 : Int)] : List Int), ([(1 : Int), (1 : Int), (1 : Int), (2 : Int), (2 : Int), (2 : Int)] : List Int), ([(1 : Int), (1 : Int), (3 : Int), (2 : Int), (2 : Int), (4 : Int)] : List Int), ([(3 : Int), (3 : Int), (3 : Int), (2 : Int), (4 : Int), (4 : Int)] : List Int)] : List (List Int)))
    (h10 : 0 ≤ c2)
    (h11 : c2 < (List.length (List.getD ([([(0 : Int), (2 : Int), (2 : Int), (1 : Int), (1 : Int), (3 : Int)] : List Int), ([(2 : Int), (2 : Int), (2 : Int), (1 : Int), (1 : Int), (3 : Int)] : List Int), ([(2 : Int), (2 : Int), (2 : Int), (1 : Int), (3 : Int), (3 : Int)] : List Int), ([(1 : Int), (1 : Int), (1 : Int), (2 : Int), (2 : Int), (2 : Int)] : List Int), ([(1 : Int), (1 : Int), (3 : Int), (2 : Int), (2 : Int), (4 : Int)] : List Int), ([(3 : Int), (3 : Int), (3 : Int), (2 : Int), (4 : Int), (4 : Int)] : List Int)] : List (List Int)) (c1).toNat ([] : List Int)) : Int)) :
    SC cfg.P i_spec_lnTable [.s (.v .str a0), .s (.v .str a1)] (.tup [.v (.int .i64) (List.getD (List.getD ([([(0 : Int), (2 : Int), (2 : Int), (1 : Int), (1 : Int), (3 : Int)] : List Int), ([(2 : Int), (2 : Int), (2 : Int), (1 : Int), (1 : Int), (3 : Int)] : List Int), ([(2 : Int), (2 : Int), (2 : Int), (1 : Int), (3 : Int), (3 : Int)] : List Int), ([(1 : Int), (1 : Int), (1 : Int), (2 : Int), (2 : Int), (2 : Int)] : List Int), ([(1 : Int), (1 : Int), (3 : Int), (2 : Int), (2 : Int), (4 : Int)] : List Int), ([(3 : Int), (3 : Int), (3 : Int), (2 : Int), (4 : Int), (4 : Int)] : List Int)] : List (List Int)) (c1).toNat ([] : List Int)) (c2).toNat (0 : Int)), .v .bool true]) [] :=
  SC_of_run cfgOK (its := [.bool true, .bool false, .res (.s (.v (.int .i64) c1)) [] [] [], .res (.s (.v (.int .i64) c2)) [] [] [], .bool false, .bool false])
    (ps := [((a0).toList == ((⟨#[76, 48]⟩ : ByteArray)).toList) = true,
      ((a1).toList == ((⟨#[76, 48]⟩ : ByteArray)).toList) = false,
      SC cfg.P i_spec_lnRow [.s (.v .str a0)] (.s (.v (.int .i64) c1)) [],
      SC cfg.P i_spec_lnRow [.s (.v .str a1)] (.s (.v (.int .i64) c2)) [],
      decide (c1 < (0 : Int)) = false,
      decide (c2 < (0 : Int)) = false,
      0 ≤ c1,
      c1 < (List.length ([([(0 : Int), (2 : Int), (2 : Int), (1 : Int), (1 : Int), (3 : Int)] : List Int), ([(2 : Int), (2 : Int), (2 : Int), (1 : Int), (1 : Int), (3 : Int)] : List Int), ([(2 : Int), (2 : Int), (2 : Int), (1 : Int), (3 : Int), (3 : Int)] : List Int), ([(1 : Int), (1 : Int), (1 : Int), (2 : Int), (2 : Int), (2 : Int)] : List Int), ([(1 : Int), (1 : Int), (3 : Int), (2 : Int), (2 : Int), (4 : Int)] : List Int), ([(3 : Int), (3 : Int), (3 : Int), (2 : Int), (4 : Int), (4 : Int)] : List Int)] : List (List Int)) : Int),
      (c1).toNat < List.length ([([(0 : Int), (2 : Int), (2 : Int), (1 : Int), (1 : Int), (3 : Int)] : List Int), ([(2 : Int), (2 : Int), (2 : Int), (1 : Int), (1 : Int), (3 : Int)] : List Int), ([(2 : Int), (2 : Int), (2 : Int), (1 : Int), (3 : Int), (3 : Int)] : List Int), ([(1 : Int), (1 : Int), (1 : Int), (2 : Int), (2 : Int), (2 : Int)] : List Int), ([(1 : Int), (1 : Int), (3 : Int), (2 : Int), (2 : Int), (4 : Int)] : List Int), ([(3 : Int), (3 : Int), (3 : Int), (2 : Int), (4 : Int), (4 : Int)] : List Int)] : List (List Int)),
      0 ≤ c2,
      c2 < (List.length (List.getD ([([(0 : Int), (2 : Int), (2 : Int), (1 : Int), (1 : Int), (3 : Int)] : List Int), ([(2 : Int), (2 : Int), (2 : Int), (1 : Int), (1 : Int), (3 : Int)] : List Int), ([(2 : Int), (2 : Int), (2 : Int), (1 : Int), (3 : Int), (3 : Int)] : List Int), ([(1 : Int), (1 : Int), (1 : Int), (2 : Int), (2 : Int), (2 : Int)] : List Int), ([(1 : Int), (1 : Int), (3 : Int), (2 : Int), (2 : Int), (4 : Int)] : List Int), ([(3 : Int), (3 : Int), (3 : Int), (2 : Int), (4 : Int), (4 : Int)] : List Int)] : List (List Int)) (c1).toNat ([] : List Int)) : Int)]) (by kernel_rfl) ⟨(seq_t h1), (seq_f h2), h3, h4, (decide_eq_false h5), (decide_eq_false h6), h7, h8, h9, h10, h11, trivial⟩ get_spec_lnTable (by decide)

theorem spec_lnTable_p5 (a0 : ByteArray) (a1 : ByteArray) (c1 : Int) (c2 : Int)
    (h1 : a0 ≠ (⟨#[76, 48]⟩ : ByteArray))
    (h2 : SC cfg.P i_spec_lnRow [.s (.v .str a0)] (.s (.v (.int .i64) c1)) [])
    (h3 : SC cfg.P i_spec_lnRow [.s (.v .str a1)] (.s (.v (.int .i64) c2)) [])
    (h4 : c1 < (0 : Int)) :
    SC cfg.P i_spec_lnTable [.s (.v .str a0), .s (.v .str a1)] (.tup [.v (.int .i64) (0 : Int), .v .bool false]) [] :=
  SC_of_run cfgOK (its := [.bool false, .res (.s (.v (.int .i64) c1)) [] [] [], .res (.s (.v (.int .i64) c2)) [] [] [], .bool true])
    (ps := [((a0).toList == ((⟨#[76, 48]⟩ : ByteArray)).toList) = false,
      SC cfg.P i_spec_lnRow [.s (.v .str a0)] (.s (.v (.int .i64) c1)) [],
      SC cfg.P i_spec_lnRow [.s (.v .str a1)] (.s (.v (.int .i64) c2)) [],
      decide (c1 < (0 : Int)) = true]) (by kernel_rfl) ⟨(seq_f h1), h2, h3, (decide_eq_true h4), trivial⟩ get_spec_lnTable (by decide)

theorem spec_lnTable_p6 (a0 : ByteArray) (a1 : ByteArray) (c1 : Int) (c2 : Int)
    (h1 : a0 ≠ (⟨#[76, 48]⟩ : ByteArray))
    (h2 : SC cfg.P i_spec_lnRow [.s (.v .str a0)] (.s (.v (.int .i64) c1)) [])
    (h3 : SC cfg.P i_spec_lnRow [.s (.v .str a1)] (.s (.v (.int .i64) c2)) [])
    (h4 : ¬ (c1 < (0 : Int)))
    (h5 : c2 < (0 : Int)) :
    SC cfg.P i_spec_lnTable [.s (.v .str a0), .s (.v .str a1)] (.tup [.v (.int .i64) (0 : Int), .v .bool false]) [] :=
  SC_of_run cfgOK (its := [.bool false, .res (.s (.v (.int .i64) c1)) [] [] [], .res (.s (.v (.int .i64) c2)) [] [] [], .bool false, .bool true])
    (ps := [((a0).toList == ((⟨#[76, 48]⟩ : ByteArray)).toList) = false,
      SC cfg.P i_spec_lnRow [.s (.v .str a0)] (.s (.v (.int .i64) c1)) [],
      SC cfg.P i_spec_lnRow [.s (.v .str a1)] (.s (.v (.int .i64) c2)) [],
      decide (c1 < (0 : Int)) = false,
      decide (c2 < (0 : Int)) = true]) (by kernel_rfl) ⟨(seq_f h1), h2, h3, (decide_eq_false h4), (decide_eq_true h5), trivial⟩ get_spec_lnTable (by decide)

theorem spec_lnTable_p7 (a0 : ByteArray) (a1 : ByteArray) (c1 : Int) (c2 : Int)
    (h1 : a0 ≠ (⟨#[76, 48]⟩ : ByteArray))
    (h2 : SC cfg.P i_spec_lnRow [.s (.v .str a0)] (.s (.v (.int .i64) c1)) [])
    (h3 : SC cfg.P i_spec_lnRow [.s (.v .str a1)] (.s (.v (.int .i64) c2)) [])
    (h4 : ¬ (c1 < (0 : Int)))
    (h5 : ¬ (c2 < (0 : Int)))
    (h6 : 0 ≤ c1)
    (h7 : c1 < (List.length ([([(0 : Int), (2 : Int), (2 : Int), (1 : Int), (1 : Int), (3 : Int)] : List Int), ([(2 : Int), (2 : Int), (2 : Int), (1 : Int), (1 : Int), (3 : Int)] : List Int), ([(2 : Int), (2 : Int), (2 : Int), (1 : Int), (3 : Int), (3 : Int)] : List Int), ([(1 : Int), (1 : Int), (1 : Int), (2 : Int), (2 : Int), (2 : Int)] : List Int), ([(1 : Int), (1 : Int), (3 : Int), (2 : Int), (2 : Int), (4 : Int)] : List Int), ([(3 : Int), (3 : Int), (3 : Int), (2 : Int), (4 : Int), (4 : Int)] : List Int)] : List (List Int)) : Int))
    (h8 : (c1).toNat < List.length ([([(0 : Int), (2 : Int), (2 : Int), (1 : Int), (1 : Int), (3 : Int)] : List Int), ([(2 : Int), (2 : Int), (2 : Int), (1 : Int), (1 : Int), (3 : Int)] : List Int), ([(2 : Int), (2 : Int), (2 : Int), (1 : Int), (3 : Int), (3 : Int)] : List Int), ([(1 : Int), (1 : Int), (1 : Int), (2 : Int), (2 : Int), (2 : Int)] : List Int), ([(1 : Int), (1 : Int), (3 : Int), (2 : Int), (2 : Int), (4 : Int)] : List Int), ([(3 : Int), (3 : Int), (3 : Int), (2 : Int), (4 : Int), (4 : Int)] : List Int)] : List (List Int)))
    (h9 : 0 ≤ c2)
    (h10 : c2 < (List.length (List.getD ([([(0 : Int), (2 : Int), (2 : Int), (1 : Int), (1 : Int), (3 : Int)] : List Int), ([(2 : Int), (2 : Int), (2 : Int), (1 : Int), (1 : Int), (3 : Int)] : List Int), ([(2 : Int), (2 : Int), (2 : Int), (1 : Int), (3 : Int), (3 : Int)] : List Int), ([(1 : Int), (1 : Int), (1 : Int), (2 : Int), (2 : Int), (2 : Int)] : List Int), ([(1 : Int), (1 : Int), (3 : Int), (2 : Int), (2 : Int), (4 : Int)] : List Int), ([(3 : Int), (3 : Int), (3 : Int), (2 : Int), (4 : Int), (4 : Int)] : List Int)] : List (List Int)) (c1).toNat ([] : List Int)) : Int)) :
    SC cfg.P i_spec_lnTable [.s (.v .str a0), .s (.v .str a1)] (.tup [.v (.int .i64) (List.getD (List.getD ([([(0 : Int), (2 : Int), (2 : Int), (1 : Int), (1 : Int), (3 : Int)] : List Int), ([(2 : Int), (2 : Int), (2 : Int), (1 : Int), (1 : Int), (3 : Int)] : List Int), ([(2 : Int), (2 : Int), (2 : Int), (1 : Int), (3 : Int), (3 : Int)] : List Int), ([(1 : Int), (1 : Int), (1 : Int), (2 : Int), (2 : Int), (2 : Int)] : List Int), ([(1 : Int), (1 : Int), (3 : Int), (2 : Int), (2 : Int), (4 : Int)] : List Int), ([(3 : Int), (3 : Int), (3 : Int), (2 : Int), (4 : Int), (4 : Int)] : List Int)] : List (List Int)) (c1).toNat ([] : List Int)) (c2).toNat (0 : Int)), .v .bool true]) [] :=
  SC_of_run cfgOK (its := [.bool false, .res (.s (.v (.int .i64) c1)) [] [] [], .res (.s (.v (.int .i64) c2)) [] [] [], .bool false, .bool false])
    (ps := [((a0).toList == ((⟨#[76, 48]⟩ : ByteArray)).toList) = false,
      SC cfg.P i_spec_lnRow [.s (.v .str a0)] (.s (.v (.int .i64) c1)) [],
      SC cfg.P i_spec_lnRow [.s (.v .str a1)] (.s (.v (.int .i64) c2)) [],
      decide (c1 < (0 : Int)) = false,
      decide (c2 < (0 : Int)) = false,
      0 ≤ c1,
      c1 < (List.length ([([(0 : Int), (2 : Int), (2 : Int), (1 : Int), (1 : Int), (3 : Int)] : List Int), ([(2 : Int), (2 : Int), (2 : Int), (1 : Int), (1 : Int), (3 : Int)] : List Int), ([(2 : Int), (2 : Int), (2 : Int), (1 : Int), (3 : Int), (3 : Int)] : List Int), ([(1 : Int), (1 : Int), (1 : Int), (2 : Int), (2 : Int), (2 : Int)] : List Int), ([(1 : Int), (1 : Int), (3 : Int), (2 : Int), (2 : Int), (4 : Int)] : List Int), ([(3 : Int), (3 : Int), (3 : Int), (2 : Int), (4 : Int), (4 : Int)] : List Int)] : List (List Int)) : Int),
      (c1).toNat < List.length ([([(0 : Int), (2 : Int), (2 : Int), (1 : Int), (1 : Int), (3 : Int)] : List Int), ([(2 : Int), (2 : Int), (2 : Int), (1 : Int), (1 : Int), (3 : Int)] : List Int), ([(2 : Int), (2 : Int), (2 : Int), (1 : Int), (3 : Int), (3 : Int)] : List Int), ([(1 : Int), (1 : Int), (1 : Int), (2 : Int), (2 : Int), (2 : Int)] : List Int), ([(1 : Int), (1 : Int), (3 : Int), (2 : Int), (2 : Int), (4 : Int)] : List Int), ([(3 : Int), (3 : Int), (3 : Int), (2 : Int), (4 : Int), (4 : Int)] : List Int)] : List (List Int)),
      0 ≤ c2,
      c2 < (List.length (List.getD ([([(0 : Int), (2 : Int), (2 : Int), (1 : Int), (1 : Int), (3 : Int)] : List Int), ([(2 : Int), (2 : Int), (2 : Int), (1 : Int), (1 : Int), (3 : Int)] : List Int), ([(2 : Int), (2 : Int), (2 : Int), (1 : Int), (3 : Int), (3 : Int)] : List Int), ([(1 : Int), (1 : Int), (1 : Int), (2 : Int), (2 : Int), (2 : Int)] : List Int), ([(1 : Int), (1 : Int), (3 : Int), (2 : Int), (2 : Int), (4 : Int)] : List Int), ([(3 : Int), (3 : Int), (3 : Int), (2 : Int), (4 : Int), (4 : Int)] : List Int)] : List (List Int)) (c1).toNat ([] : List Int)) : Int)]) (by kernel_rfl) ⟨(seq_f h1), h2, h3, (decide_eq_false h4), (decide_eq_false h5), h6, h7, h8, h9, h10, trivial⟩ get_spec_lnTable (by decide)

/-! ### impl_node_marks -/


theorem impl_node_marks_p1 (a1 : Int) (a2 : Bool)
     :
    SC cfg.P i_impl_node_marks [.s (.v .tree Tr.leaf), .s (.v (.int .i64) a1), .s (.v .bool a2)] (.s (.own t_impl_mark (.pr (.int .i64) .bool) ([] : List (Int × Bool)))) [] :=
  SC_of_run cfgOK (its := [.bool true])
    (ps := [Tr.leaf.isLeaf = true]) (by kernel_rfl) ⟨rfl, trivial⟩ get_impl_node_marks (by decide)

theorem impl_node_marks_p2 (a0l : Tr) (a1 : Int) (c1 : (List (Int × Bool))) (c2 : (List (Int × Bool)))
    (h1 : a1 = (0 : Int))
    (h2 : SC cfg.P i_impl_node_marks [.s (.v .tree a0l), .s (.v (.int .i64) (0 : Int)), .s (.v .bool false)] (.s (.own t_impl_mark (.pr (.int .i64) .bool) c1)) [])
    (h3 : sizeOK (List.length c1 + List.length ([(a1, true)] : List (Int × Bool))))
    (h4 : SC cfg.P i_impl_node_marks [.s (.v .tree Tr.leaf), .s (.v (.int .i64) (1 : Int)), .s (.v .bool false)] (.s (.own t_impl_mark (.pr (.int .i64) .bool) c2)) [])
    (h5 : sizeOK (List.length (c1 ++ ([(a1, true)] : List (Int × Bool))) + List.length c2)) :
    SC cfg.P i_impl_node_marks [.s (.v .tree (Tr.node a0l Tr.leaf)), .s (.v (.int .i64) a1), .s (.v .bool true)] (.s (.own t_impl_mark (.pr (.int .i64) .bool) ((c1 ++ ([(a1, true)] : List (Int × Bool))) ++ c2))) [] :=
  SC_of_run cfgOK (its := [.bool false, .bool true, .res (.s (.own t_impl_mark (.pr (.int .i64) .bool) c1)) [] [] [24], .bool true, .res (.s (.own t_impl_mark (.pr (.int .i64) .bool) c2)) [] [] [41]])
    (ps := [(Tr.node a0l Tr.leaf).isLeaf = false,
      (a1 == (0 : Int)) = true,
      SC cfg.P i_impl_node_marks [.s (.v .tree a0l), .s (.v (.int .i64) (0 : Int)), .s (.v .bool false)] (.s (.own t_impl_mark (.pr (.int .i64) .bool) c1)) [],
      Tr.leaf.isLeaf = true,
      sizeOK (List.length c1 + List.length ([(a1, true)] : List (Int × Bool))),
      SC cfg.P i_impl_node_marks [.s (.v .tree Tr.leaf), .s (.v (.int .i64) (1 : Int)), .s (.v .bool false)] (.s (.own t_impl_mark (.pr (.int .i64) .bool) c2)) [],
      sizeOK (List.length (c1 ++ ([(a1, true)] : List (Int × Bool))) + List.length c2)]) (by kernel_rfl) ⟨rfl, (beq_t h1), h2, rfl, h3, h4, h5, trivial⟩ get_impl_node_marks (by decide)

theorem impl_node_marks_p3 (a0l : Tr) (a0rl : Tr) (a0rr : Tr) (a1 : Int) (c1 : (List (Int × Bool))) (c2 : (List (Int × Bool)))
    (h1 : a1 = (0 : Int))
    (h2 : SC cfg.P i_impl_node_marks [.s (.v .tree a0l), .s (.v (.int .i64) (0 : Int)), .s (.v .bool false)] (.s (.own t_impl_mark (.pr (.int .i64) .bool) c1)) [])
    (h3 : sizeOK (List.length c1 + List.length ([(a1, false)] : List (Int × Bool))))
    (h4 : SC cfg.P i_impl_node_marks [.s (.v .tree (Tr.node a0rl a0rr)), .s (.v (.int .i64) (1 : Int)), .s (.v .bool false)] (.s (.own t_impl_mark (.pr (.int .i64) .bool) c2)) [])
    (h5 : sizeOK (List.length (c1 ++ ([(a1, false)] : List (Int × Bool))) + List.length c2)) :
    SC cfg.P i_impl_node_marks [.s (.v .tree (Tr.node a0l (Tr.node a0rl a0rr))), .s (.v (.int .i64) a1), .s (.v .bool true)] (.s (.own t_impl_mark (.pr (.int .i64) .bool) ((c1 ++ ([(a1, false)] : List (Int × Bool))) ++ c2))) [] :=
  SC_of_run cfgOK (its := [.bool false, .bool true, .res (.s (.own t_impl_mark (.pr (.int .i64) .bool) c1)) [] [] [24], .bool false, .res (.s (.own t_impl_mark (.pr (.int .i64) .bool) c2)) [] [] [41]])
    (ps := [(Tr.node a0l (Tr.node a0rl a0rr)).isLeaf = false,
      (a1 == (0 : Int)) = true,
      SC cfg.P i_impl_node_marks [.s (.v .tree a0l), .s (.v (.int .i64) (0 : Int)), .s (.v .bool false)] (.s (.own t_impl_mark (.pr (.int .i64) .bool) c1)) [],
      (Tr.node a0rl a0rr).isLeaf = false,
      sizeOK (List.length c1 + List.length ([(a1, false)] : List (Int × Bool))),
      SC cfg.P i_impl_node_marks [.s (.v .tree (Tr.node a0rl a0rr)), .s (.v (.int .i64) (1 : Int)), .s (.v .bool false)] (.s (.own t_impl_mark (.pr (.int .i64) .bool) c2)) [],
      sizeOK (List.length (c1 ++ ([(a1, false)] : List (Int × Bool))) + List.length c2)]) (by kernel_rfl) ⟨rfl, (beq_t h1), h2, rfl, h3, h4, h5, trivial⟩ get_impl_node_marks (by decide)

theorem impl_node_marks_p4 (a0l : Tr) (a1 : Int) (c1 : (List (Int × Bool))) (c2 : (List (Int × Bool)))
    (h1 : a1 = (0 : Int))
    (h2 : a1 = (1 : Int))
    (h3 : SC cfg.P i_impl_node_marks [.s (.v .tree a0l), .s (.v (.int .i64) (0 : Int)), .s (.v .bool false)] (.s (.own t_impl_mark (.pr (.int .i64) .bool) c1)) [])
    (h4 : sizeOK (List.length c1 + List.length ([(a1, true)] : List (Int × Bool))))
    (h5 : SC cfg.P i_impl_node_marks [.s (.v .tree Tr.leaf), .s (.v (.int .i64) (1 : Int)), .s (.v .bool false)] (.s (.own t_impl_mark (.pr (.int .i64) .bool) c2)) [])
    (h6 : sizeOK (List.length (c1 ++ ([(a1, true)] : List (Int × Bool))) + List.length c2)) :
    SC cfg.P i_impl_node_marks [.s (.v .tree (Tr.node a0l Tr.leaf)), .s (.v (.int .i64) a1), .s (.v .bool false)] (.s (.own t_impl_mark (.pr (.int .i64) .bool) ((c1 ++ ([(a1, true)] : List (Int × Bool))) ++ c2))) [] :=
  SC_of_run cfgOK (its := [.bool false, .bool true, .bool true, .res (.s (.own t_impl_mark (.pr (.int .i64) .bool) c1)) [] [] [24], .bool true, .res (.s (.own t_impl_mark (.pr (.int .i64) .bool) c2)) [] [] [41]])
    (ps := [(Tr.node a0l Tr.leaf).isLeaf = false,
      (a1 == (0 : Int)) = true,
      (a1 == (1 : Int)) = true,
      SC cfg.P i_impl_node_marks [.s (.v .tree a0l), .s (.v (.int .i64) (0 : Int)), .s (.v .bool false)] (.s (.own t_impl_mark (.pr (.int .i64) .bool) c1)) [],
      Tr.leaf.isLeaf = true,
      sizeOK (List.length c1 + List.length ([(a1, true)] : List (Int × Bool))),
      SC cfg.P i_impl_node_marks [.s (.v .tree Tr.leaf), .s (.v (.int .i64) (1 : Int)), .s (.v .bool false)] (.s (.own t_impl_mark (.pr (.int .i64) .bool) c2)) [],
      sizeOK (List.length (c1 ++ ([(a1, true)] : List (Int × Bool))) + List.length c2)]) (by kernel_rfl) ⟨rfl, (beq_t h1), (beq_t h2), h3, rfl, h4, h5, h6, trivial⟩ get_impl_node_marks (by decide)

theorem impl_node_marks_p5 (a0l : Tr) (a0rl : Tr) (a0rr : Tr) (a1 : Int) (c1 : (List (Int × Bool))) (c2 : (List (Int × Bool)))
    (h1 : a1 = (0 : Int))
    (h2 : a1 = (1 : Int))
    (h3 : SC cfg.P i_impl_node_marks [.s (.v .tree a0l), .s (.v (.int .i64) (0 : Int)), .s (.v .bool false)] (.s (.own t_impl_mark (.pr (.int .i64) .bool) c1)) [])
    (h4 : sizeOK (List.length c1 + List.length ([(a1, false)] : List (Int × Bool))))
    (h5 : SC cfg.P i_impl_node_marks [.s (.v .tree (Tr.node a0rl a0rr)), .s (.v (.int .i64) (1 : Int)), .s (.v .bool false)] (.s (.own t_impl_mark (.pr (.int .i64) .bool) c2)) [])
    (h6 : sizeOK (List.length (c1 ++ ([(a1, false)] : List (Int × Bool))) + List.length c2)) :
    SC cfg.P i_impl_node_marks [.s (.v .tree (Tr.node a0l (Tr.node a0rl a0rr))), .s (.v (.int .i64) a1), .s (.v .bool false)] (.s (.own t_impl_mark (.pr (.int .i64) .bool) ((c1 ++ ([(a1, false)] : List (Int × Bool))) ++ c2))) [] :=
  SC_of_run cfgOK (its := [.bool false, .bool true, .bool true, .res (.s (.own t_impl_mark (.pr (.int .i64) .bool) c1)) [] [] [24], .bool false, .res (.s (.own t_impl_mark (.pr (.int .i64) .bool) c2)) [] [] [41]])
    (ps := [(Tr.node a0l (Tr.node a0rl a0rr)).isLeaf = false,
      (a1 == (0 : Int)) = true,
      (a1 == (1 : Int)) = true,
      SC cfg.P i_impl_node_marks [.s (.v .tree a0l), .s (.v (.int .i64) (0 : Int)), .s (.v .bool false)] (.s (.own t_impl_mark (.pr (.int .i64) .bool) c1)) [],
      (Tr.node a0rl a0rr).isLeaf = false,
      sizeOK (List.length c1 + List.length ([(a1, false)] : List (Int × Bool))),
      SC cfg.P i_impl_node_marks [.s (.v .tree (Tr.node a0rl a0rr)), .s (.v (.int .i64) (1 : Int)), .s (.v .bool false)] (.s (.own t_impl_mark (.pr (.int .i64) .bool) c2)) [],
      sizeOK (List.length (c1 ++ ([(a1, false)] : List (Int × Bool))) + List.length c2)]) (by kernel_rfl) ⟨rfl, (beq_t h1), (beq_t h2), h3, rfl, h4, h5, h6, trivial⟩ get_impl_node_marks (by decide)

theorem impl_node_marks_p6 (a0l : Tr) (a1 : Int) (c1 : (List (Int × Bool))) (c2 : (List (Int × Bool)))
    (h1 : a1 = (0 : Int))
    (h2 : a1 ≠ (1 : Int))
    (h3 : SC cfg.P i_impl_node_marks [.s (.v .tree a0l), .s (.v (.int .i64) (0 : Int)), .s (.v .bool false)] (.s (.own t_impl_mark (.pr (.int .i64) .bool) c1)) [])
    (h4 : sizeOK (List.length c1 + List.length ([(a1, true)] : List (Int × Bool))))
    (h5 : SC cfg.P i_impl_node_marks [.s (.v .tree Tr.leaf), .s (.v (.int .i64) (2 : Int)), .s (.v .bool false)] (.s (.own t_impl_mark (.pr (.int .i64) .bool) c2)) [])
    (h6 : sizeOK (List.length (c1 ++ ([(a1, true)] : List (Int × Bool))) + List.length c2)) :
    SC cfg.P i_impl_node_marks [.s (.v .tree (Tr.node a0l Tr.leaf)), .s (.v (.int .i64) a1), .s (.v .bool false)] (.s (.own t_impl_mark (.pr (.int .i64) .bool) ((c1 ++ ([(a1, true)] : List (Int × Bool))) ++ c2))) [] :=
  SC_of_run cfgOK (its := [.bool false, .bool true, .bool false, .res (.s (.own t_impl_mark (.pr (.int .i64) .bool) c1)) [] [] [24], .bool true, .res (.s (.own t_impl_mark (.pr (.int .i64) .bool) c2)) [] [] [41]])
    (ps := [(Tr.node a0l Tr.leaf).isLeaf = false,
      (a1 == (0 : Int)) = true,
      (a1 == (1 : Int)) = false,
      SC cfg.P i_impl_node_marks [.s (.v .tree a0l), .s (.v (.int .i64) (0 : Int)), .s (.v .bool false)] (.s (.own t_impl_mark (.pr (.int .i64) .bool) c1)) [],
      Tr.leaf.isLeaf = true,
      sizeOK (List.length c1 + List.length ([(a1, true)] : List (Int × Bool))),
      SC cfg.P i_impl_node_marks [.s (.v .tree Tr.leaf), .s (.v (.int .i64) (2 : Int)), .s (.v .bool false)] (.s (.own t_impl_mark (.pr (.int .i64) .bool) c2)) [],
      sizeOK (List.length (c1 ++ ([(a1, true)] : List (Int × Bool))) + List.length c2)]) (by kernel_rfl) ⟨rfl, (beq_t h1), (beq_f h2), h3, rfl, h4, h5, h6, trivial⟩ get_impl_node_marks (by decide)

theorem impl_node_marks_p7 (a0l : Tr) (a0rl : Tr) (a0rr : Tr) (a1 : Int) (c1 : (List (Int × Bool))) (c2 : (List (Int × Bool)))
    (h1 : a1 = (0 : Int))
    (h2 : a1 ≠ (1 : Int))
    (h3 : SC cfg.P i_impl_node_marks [.s (.v .tree a0l), .s (.v (.int .i64) (0 : Int)), .s (.v .bool false)] (.s (.own t_impl_mark (.pr (.int .i64) .bool) c1)) [])
    (h4 : sizeOK (List.length c1 + List.length ([(a1, false)] : List (Int × Bool))))
    (h5 : SC cfg.P i_impl_node_marks [.s (.v .tree (Tr.node a0rl a0rr)), .s (.v (.int .i64) (2 : Int)), .s (.v .bool false)] (.s (.own t_impl_mark (.pr (.int .i64) .bool) c2)) [])
    (h6 : sizeOK (List.length (c1 ++ ([(a1, false)] : List (Int × Bool))) + List.length c2)) :
    SC cfg.P i_impl_node_marks [.s (.v .tree (Tr.node a0l (Tr.node a0rl a0rr))), .s (.v (.int .i64) a1), .s (.v .bool false)] (.s (.own t_impl_mark (.pr (.int .i64) .bool) ((c1 ++ ([(a1, false)] : List (Int × Bool))) ++ c2))) [] :=
  SC_of_run cfgOK (its := [.bool false, .bool true, .bool false, .res (.s (.own t_impl_mark (.pr (.int .i64) .bool) c1)) [] [] [24], .bool false, .res (.s (.own t_impl_mark (.pr (.int .i64) .bool) c2)) [] [] [41]])
    (ps := [(Tr.node a0l (Tr.node a0rl a0rr)).isLeaf = false,
      (a1 == (0 : Int)) = true,
      (a1 == (1 : Int)) = false,
      SC cfg.P i_impl_node_marks [.s (.v .tree a0l), .s (.v (.int .i64) (0 : Int)), .s (.v .bool false)] (.s (.own t_impl_mark (.pr (.int .i64) .bool) c1)) [],
      (Tr.node a0rl a0rr).isLeaf = false,
      sizeOK (List.length c1 + List.length ([(a1, false)] : List (Int × Bool))),
      SC cfg.P i_impl_node_marks [.s (.v .tree (Tr.node a0rl a0rr)), .s (.v (.int .i64) (2 : Int)), .s (.v .bool false)] (.s (.own t_impl_mark (.pr (.int .i64) .bool) c2)) [],
      sizeOK (List.length (c1 ++ ([(a1, false)] : List (Int × Bool))) + List.length c2)]) (by kernel_rfl) ⟨rfl, (beq_t h1), (beq_f h2), h3, rfl, h4, h5, h6, trivial⟩ get_impl_node_marks (by decide)

theorem impl_node_marks_p8 (a0l : Tr) (a1 : Int) (c1 : (List (Int × Bool))) (c2 : (List (Int × Bool)))
    (h1 : a1 ≠ (0 : Int))
    (h2 : SC cfg.P i_impl_node_marks [.s (.v .tree a0l), .s (.v (.int .i64) (2 : Int)), .s (.v .bool false)] (.s (.own t_impl_mark (.pr (.int .i64) .bool) c1)) [])
    (h3 : sizeOK (List.length c1 + List.length ([(a1, true)] : List (Int × Bool))))
    (h4 : SC cfg.P i_impl_node_marks [.s (.v .tree Tr.leaf), .s (.v (.int .i64) (1 : Int)), .s (.v .bool false)] (.s (.own t_impl_mark (.pr (.int .i64) .bool) c2)) [])
    (h5 : sizeOK (List.length (c1 ++ ([(a1, true)] : List (Int × Bool))) + List.length c2)) :
    SC cfg.P i_impl_node_marks [.s (.v .tree (Tr.node a0l Tr.leaf)), .s (.v (.int .i64) a1), .s (.v .bool true)] (.s (.own t_impl_mark (.pr (.int .i64) .bool) ((c1 ++ ([(a1, true)] : List (Int × Bool))) ++ c2))) [] :=
  SC_of_run cfgOK (its := [.bool false, .bool false, .res (.s (.own t_impl_mark (.pr (.int .i64) .bool) c1)) [] [] [24], .bool true, .res (.s (.own t_impl_mark (.pr (.int .i64) .bool) c2)) [] [] [41]])
    (ps := [(Tr.node a0l Tr.leaf).isLeaf = false,
      (a1 == (0 : Int)) = false,
      SC cfg.P i_impl_node_marks [.s (.v .tree a0l), .s (.v (.int .i64) (2 : Int)), .s (.v .bool false)] (.s (.own t_impl_mark (.pr (.int .i64) .bool) c1)) [],
      Tr.leaf.isLeaf = true,
      sizeOK (List.length c1 + List.length ([(a1, true)] : List (Int × Bool))),
      SC cfg.P i_impl_node_marks [.s (.v .tree Tr.leaf), .s (.v (.int .i64) (1 : Int)), .s (.v .bool false)] (.s (.own t_impl_mark (.pr (.int .i64) .bool) c2)) [],
      sizeOK (List.length (c1 ++ ([(a1, true)] : List (Int × Bool))) + List.length c2)]) (by kernel_rfl) ⟨rfl, (beq_f h1), h2, rfl, h3, h4, h5, trivial⟩ get_impl_node_marks (by decide)

theorem impl_node_marks_p9 (a0l : Tr) (a0rl : Tr) (a0rr : Tr) (a1 : Int) (c1 : (List (Int × Bool))) (c2 : (List (Int × Bool)))
    (h1 : a1 ≠ (0 : Int))
    (h2 : SC cfg.P i_impl_node_marks [.s (.v .tree a0l), .s (.v (.int .i64) (2 : Int)), .s (.v .bool false)] (.s (.own t_impl_mark (.pr (.int .i64) .bool) c1)) [])
    (h3 : sizeOK (List.length c1 + List.length ([(a1, false)] : List (Int × Bool))))
    (h4 : SC cfg.P i_impl_node_marks [.s (.v .tree (Tr.node a0rl a0rr)), .s (.v (.int .i64) (1 : Int)), .s (.v .bool false)] (.s (.own t_impl_mark (.pr (.int .i64) .bool) c2)) [])
    (h5 : sizeOK (List.length (c1 ++ ([(a1, false)] : List (Int × Bool))) + List.length c2)) :
    SC cfg.P i_impl_node_marks [.s (.v .tree (Tr.node a0l (Tr.node a0rl a0rr))), .s (.v (.int .i64) a1), .s (.v .bool true)] (.s (.own t_impl_mark (.pr (.int .i64) .bool) ((c1 ++ ([(a1, false)] : List (Int × Bool))) ++ c2))) [] :=
  SC_of_run cfgOK (its := [.bool false, .bool false, .res (.s (.own t_impl_mark (.pr (.int .i64) .bool) c1)) [] [] [24], .bool false, .res (.s (.own t_impl_mark (.pr (.int .i64) .bool) c2)) [] [] [41]])
    (ps := [(Tr.node a0l (Tr.node a0rl a0rr)).isLeaf = false,
      (a1 == (0 : Int)) = false,
      SC cfg.P i_impl_node_marks [.s (.v .tree a0l), .s (.v (.int .i64) (2 : Int)), .s (.v .bool false)] (.s (.own t_impl_mark (.pr (.int .i64) .bool) c1)) [],
      (Tr.node a0rl a0rr).isLeaf = false,
      sizeOK (List.length c1 + List.length ([(a1, false)] : List (Int × Bool))),
      SC cfg.P i_impl_node_marks [.s (.v .tree (Tr.node a0rl a0rr)), .s (.v (.int .i64) (1 : Int)), .s (.v .bool false)] (.s (.own t_impl_mark (.pr (.int .i64) .bool) c2)) [],
      sizeOK (List.length (c1 ++ ([(a1, false)] : List (Int × Bool))) + List.length c2)]) (by kernel_rfl) ⟨rfl, (beq_f h1), h2, rfl, h3, h4, h5, trivial⟩ get_impl_node_marks (by decide)

theorem impl_node_marks_p10 (a0l : Tr) (a1 : Int) (c1 : (List (Int × Bool))) (c2 : (List (Int × Bool)))
    (h1 : a1 ≠ (0 : Int))
    (h2 : a1 = (1 : Int))
    (h3 : SC cfg.P i_impl_node_marks [.s (.v .tree a0l), .s (.v (.int .i64) (2 : Int)), .s (.v .bool false)] (.s (.own t_impl_mark (.pr (.int .i64) .bool) c1)) [])
    (h4 : sizeOK (List.length c1 + List.length ([(a1, true)] : List (Int × Bool))))
    (h5 : SC cfg.P i_impl_node_marks [.s (.v .tree Tr.leaf), .s (.v (.int .i64) (1 : Int)), .s (.v .bool false)] (.s (.own t_impl_mark (.pr (.int .i64) .bool) c2)) [])
    (h6 : sizeOK (List.length (c1 ++ ([(a1, true)] : List (Int × Bool))) + List.length c2)) :
    SC cfg.P i_impl_node_marks [.s (.v .tree (Tr.node a0l Tr.leaf)), .s (.v (.int .i64) a1), .s (.v .bool false)] (.s (.own t_impl_mark (.pr (.int .i64) .bool) ((c1 ++ ([(a1, true)] : List (Int × Bool))) ++ c2))) [] :=
  SC_of_run cfgOK (its := [.bool false, .bool false, .bool true, .res (.s (.own t_impl_mark (.pr (.int .i64) .bool) c1)) [] [] [24], .bool true, .res (.s (.own t_impl_mark (.pr (.int .i64) .bool) c2)) [] [] [41]])
    (ps := [(Tr.node a0l Tr.leaf).isLeaf = false,
      (a1 == (0 : Int)) = false,
      (a1 == (1 : Int)) = true,
      SC cfg.P i_impl_node_marks [.s (.v .tree a0l), .s (.v (.int .i64) (2 : Int)), .s (.v .bool false)] (.s (.own t_impl_mark (.pr (.int .i64) .bool) c1)) [],
      Tr.leaf.isLeaf = true,
      sizeOK (List.length c1 + List.length ([(a1, true)] : List (Int × Bool))),
      SC cfg.P i_impl_node_marks [.s (.v .tree Tr.leaf), .s (.v (.int .i64) (1 : Int)), .s (.v .bool false)] (.s (.own t_impl_mark (.pr (.int .i64) .bool) c2)) [],
      sizeOK (List.length (c1 ++ ([(a1, true)] : List (Int × Bool))) + List.length c2)]) (by kernel_rfl) ⟨rfl, (beq_f h1), (beq_t h2), h3, rfl, h4, h5, h6, trivial⟩ get_impl_node_marks (by decide)

theorem impl_node_marks_p11 (a0l : Tr) (a0rl : Tr) (a0rr : Tr) (a1 : Int) (c1 : (List (Int × Bool))) (c2 : (List (Int × Bool)))
    (h1 : a1 ≠ (0 : Int))
    (h2 : a1 = (1 : Int))
    (h3 : SC cfg.P i_impl_node_marks [.s (.v .tree a0l), .s (.v (.int .i64) (2 : Int)), .s (.v .bool false)] (.s (.own t_impl_mark (.pr (.int .i64) .bool) c1)) [])
    (h4 : sizeOK (List.length c1 + List.length ([(a1, false)] : List (Int × Bool))))
    (h5 : SC cfg.P i_impl_node_marks [.s (.v .tree (Tr.node a0rl a0rr)), .s (.v (.int .i64) (1 : Int)), .s (.v .bool false)] (.s (.own t_impl_mark (.pr (.int .i64) .bool) c2)) [])
    (h6 : sizeOK (List.length (c1 ++ ([(a1, false)] : List (Int × Bool))) + List.length c2)) :
    SC cfg.P i_impl_node_marks [.s (.v .tree (Tr.node a0l (Tr.node a0rl a0rr))), .s (.v (.int .i64) a1), .s (.v .bool false)] (.s (.own t_impl_mark (.pr (.int .i64) .bool) ((c1 ++ ([(a1, false)] : List (Int × Bool))) ++ c2))) [] :=
  SC_of_run cfgOK (its := [.bool false, .bool false, .bool true, .res (.s (.own t_impl_mark (.pr (.int .i64) .bool) c1)) [] [] [24], .bool false, .res (.s (.own t_impl_mark (.pr (.int .i64) .bool) c2)) [] [] [41]])
    (ps := [(Tr.node a0l (Tr.node a0rl a0rr)).isLeaf = false,
      (a1 == (0 : Int)) = false,
      (a1 == (1 : Int)) = true,
      SC cfg.P i_impl_node_marks [.s (.v .tree a0l), .s (.v (.int .i64) (2 : Int)), .s (.v .bool false)] (.s (.own t_impl_mark (.pr (.int .i64) .bool) c1)) [],
      (Tr.node a0rl a0rr).isLeaf = false,
      sizeOK (List.length c1 + List.length ([(a1, false)] : List (Int × Bool))),
      SC cfg.P i_impl_node_marks [.s (.v .tree (Tr.node a0rl a0rr)), .s (.v (.int .i64) (1 : Int)), .s (.v .bool false)] (.s (.own t_impl_mark (.pr (.int .i64) .bool) c2)) [],
      sizeOK (List.length (c1 ++ ([(a1, false)] : List (Int × Bool))) + List.length c2)]) (by kernel_rfl) ⟨rfl, (beq_f h1), (beq_t h2), h3, rfl, h4, h5, h6, trivial⟩ get_impl_node_marks (by decide)

theorem impl_node_marks_p12 (a0l : Tr) (a1 : Int) (c1 : (List (Int × Bool))) (c2 : (List (Int × Bool)))
    (h1 : a1 ≠ (0 : Int))
    (h2 : a1 ≠ (1 : Int))
    (h3 : SC cfg.P i_impl_node_marks [.s (.v .tree a0l), .s (.v (.int .i64) (2 : Int)), .s (.v .bool false)] (.s (.own t_impl_mark (.pr (.int .i64) .bool) c1)) [])
    (h4 : sizeOK (List.length c1 + List.length ([(a1, true)] : List (Int × Bool))))
    (h5 : SC cfg.P i_impl_node_marks [.s (.v .tree Tr.leaf), .s (.v (.int .i64) (2 : Int)), .s (.v .bool false)] (.s (.own t_impl_mark (.pr (.int .i64) .bool) c2)) [])
    (h6 : sizeOK (List.length (c1 ++ ([(a1, true)] : List (Int × Bool))) + List.length c2)) :
    SC cfg.P i_impl_node_marks [.s (.v .tree (Tr.node a0l Tr.leaf)), .s (.v (.int .i64) a1), .s (.v .bool false)] (.s (.own t_impl_mark (.pr (.int .i64) .bool) ((c1 ++ ([(a1, true)] : List (Int × Bool))) ++ c2))) [] :=
  SC_of_run cfgOK (its := [.bool false, .bool false, .bool false, .res (.s (.own t_impl_mark (.pr (.int .i64) .bool) c1)) [] [] [24], .bool true, .res (.s (.own t_impl_mark (.pr (.int .i64) .bool) c2)) [] [] [41]])
    (ps := [(Tr.node a0l Tr.leaf).isLeaf = false,
      (a1 == (0 : Int)) = false,
      (a1 == (1 : Int)) = false,
      SC cfg.P i_impl_node_marks [.s (.v .tree a0l), .s (.v (.int .i64) (2 : Int)), .s (.v .bool false)] (.s (.own t_impl_mark (.pr (.int .i64) .bool) c1)) [],
      Tr.leaf.isLeaf = true,
      sizeOK (List.length c1 + List.length ([(a1, true)] : List (Int × Bool))),
      SC cfg.P i_impl_node_marks [.s (.v .tree Tr.leaf), .s (.v (.int .i64) (2 : Int)), .s (.v .bool false)] (.s (.own t_impl_mark (.pr (.int .i64) .bool) c2)) [],
      sizeOK (List.length (c1 ++ ([(a1, true)] : List (Int × Bool))) + List.length c2)]) (by kernel_rfl) ⟨rfl, (beq_f h1), (beq_f h2), h3, rfl, h4, h5, h6, trivial⟩ get_impl_node_marks (by decide)

theorem impl_node_marks_p13 (a0l : Tr) (a0rl : Tr) (a0rr : Tr) (a1 : Int) (c1 : (List (Int × Bool))) (c2 : (List (Int × Bool)))
    (h1 : a1 ≠ (0 : Int))
    (h2 : a1 ≠ (1 : Int))
    (h3 : SC cfg.P i_impl_node_marks [.s (.v .tree a0l), .s (.v (.int .i64) (2 : Int)), .s (.v .bool false)] (.s (.own t_impl_mark (.pr (.int .i64) .bool) c1)) [])
    (h4 : sizeOK (List.length c1 + List.length ([(a1, false)] : List (Int × Bool))))
    (h5 : SC cfg.P i_impl_node_marks [.s (.v .tree (Tr.node a0rl a0rr)), .s (.v (.int .i64) (2 : Int)), .s (.v .bool false)] (.s (.own t_impl_mark (.pr (.int .i64) .bool) c2)) [])
    (h6 : sizeOK (List.length (c1 ++ ([(a1, false)] : List (Int × Bool))) + List.length c2)) :
    SC cfg.P i_impl_node_marks [.s (.v .tree (Tr.node a0l (Tr.node a0rl a0rr))), .s (.v (.int .i64) a1), .s (.v .bool false)] (.s (.own t_impl_mark (.pr (.int .i64) .bool) ((c1 ++ ([(a1, false)] : List (Int × Bool))) ++ c2))) [] :=
  SC_of_run cfgOK (its := [.bool false, .bool false, .bool false, .res (.s (.own t_impl_mark (.pr (.int .i64) .bool) c1)) [] [] [24], .bool false, .res (.s (.own t_impl_mark (.pr (.int .i64) .bool) c2)) [] [] [41]])
    (ps := [(Tr.node a0l (Tr.node a0rl a0rr)).isLeaf = false,
      (a1 == (0 : Int)) = false,
      (a1 == (1 : Int)) = false,
      SC cfg.P i_impl_node_marks [.s (.v .tree a0l), .s (.v (.int .i64) (2 : Int)), .s (.v .bool false)] (.s (.own t_impl_mark (.pr (.int .i64) .bool) c1)) [],
      (Tr.node a0rl a0rr).isLeaf = false,
      sizeOK (List.length c1 + List.length ([(a1, false)] : List (Int × Bool))),
      SC cfg.P i_impl_node_marks [.s (.v .tree (Tr.node a0rl a0rr)), .s (.v (.int .i64) (2 : Int)), .s (.v .bool false)] (.s (.own t_impl_mark (.pr (.int .i64) .bool) c2)) [],
      sizeOK (List.length (c1 ++ ([(a1, false)] : List (Int × Bool))) + List.length c2)]) (by kernel_rfl) ⟨rfl, (beq_f h1), (beq_f h2), h3, rfl, h4, h5, h6, trivial⟩ get_impl_node_marks (by decide)

/-! ### slices_ContainsFunc_loopexampleg01161implmark -/


theorem slices_ContainsFunc_loopexampleg01161implmark_p1 (a0 : (List (Int × Bool))) (c1 : Int)
    (h1 : SC cfg.P i_slices_IndexFunc_loopexampleg01161implmark [.s (.v (.sl (.pr (.int .i64) .bool)) a0), .fn i_impl_node_kinds_k1 [] []] (.s (.v (.int .i64) c1)) [])
    (h2 : c1 ≥ (0 : Int)) :
    SC cfg.P i_slices_ContainsFunc_loopexampleg01161implmark [.s (.v (.sl (.pr (.int .i64) .bool)) a0), .fn i_impl_node_kinds_k1 [] []] (.s (.v .bool true)) [] :=
  SC_of_run cfgOK (its := [.res (.s (.v (.int .i64) c1)) [] [] [], .bool true])
    (ps := [SC cfg.P i_slices_IndexFunc_loopexampleg01161implmark [.s (.v (.sl (.pr (.int .i64) .bool)) a0), .fn i_impl_node_kinds_k1 [] []] (.s (.v (.int .i64) c1)) [],
      decide (c1 ≥ (0 : Int)) = true]) (by kernel_rfl) ⟨h1, (decide_eq_true h2), trivial⟩ get_slices_ContainsFunc_loopexampleg01161implmark (by decide)

theorem slices_ContainsFunc_loopexampleg01161implmark_p2 (a0 : (List (Int × Bool))) (c1 : Int)
    (h1 : SC cfg.P i_slices_IndexFunc_loopexampleg01161implmark [.s (.v (.sl (.pr (.int .i64) .bool)) a0), .fn i_impl_node_kinds_k1 [] []] (.s (.v (.int .i64) c1)) [])
    (h2 : ¬ (c1 ≥ (0 : Int))) :
    SC cfg.P i_slices_ContainsFunc_loopexampleg01161implmark [.s (.v (.sl (.pr (.int .i64) .bool)) a0), .fn i_impl_node_kinds_k1 [] []] (.s (.v .bool false)) [] :=
  SC_of_run cfgOK (its := [.res (.s (.v (.int .i64) c1)) [] [] [], .bool false])
    (ps := [SC cfg.P i_slices_IndexFunc_loopexampleg01161implmark [.s (.v (.sl (.pr (.int .i64) .bool)) a0), .fn i_impl_node_kinds_k1 [] []] (.s (.v (.int .i64) c1)) [],
      decide (c1 ≥ (0 : Int)) = false]) (by kernel_rfl) ⟨h1, (decide_eq_false h2), trivial⟩ get_slices_ContainsFunc_loopexampleg01161implmark (by decide)

/-! ### impl_node_kinds_k1 -/


theorem impl_node_kinds_k1_p1 (a0 : (Int × Bool))
    (h1 : a0.1 ≠ (1 : Int)) :
    SC cfg.P i_impl_node_kinds_k1 [.s (.v (.pr (.int .i64) .bool) a0)] (.s (.v .bool true)) [] :=
  SC_of_run cfgOK (its := [.bool true])
    (ps := [(a0.1 != (1 : Int)) = true]) (by kernel_rfl) ⟨(bne_t h1), trivial⟩ get_impl_node_kinds_k1 (by decide)

theorem impl_node_kinds_k1_p2 (a0 : (Int × Bool))
    (h1 : a0.1 = (1 : Int)) :
    SC cfg.P i_impl_node_kinds_k1 [.s (.v (.pr (.int .i64) .bool) a0)] (.s (.v .bool false)) [] :=
  SC_of_run cfgOK (its := [.bool false])
    (ps := [(a0.1 != (1 : Int)) = false]) (by kernel_rfl) ⟨(bne_f h1), trivial⟩ get_impl_node_kinds_k1 (by decide)

/-! ### spec_lnLeft -/


theorem spec_lnLeft_p1 (a0 : ByteArray)
    (h1 : SC cfg.P i_spec_trLeaf [.s (.v .str a0)] (.s (.v .bool true)) []) :
    SC cfg.P i_spec_lnLeft [.s (.v .str a0)] (.s (.own t_string .str ([] : List ByteArray))) [] :=
  SC_of_run cfgOK (its := [.res (.s (.v .bool true)) [] [] []])
    (ps := [SC cfg.P i_spec_trLeaf [.s (.v .str a0)] (.s (.v .bool true)) []]) (by kernel_rfl) ⟨h1, trivial⟩ get_spec_lnLeft (by decide)

theorem spec_lnLeft_p2 (a0 : ByteArray) (c2a : ByteArray) (c2b : ByteArray) (c3 : (List ByteArray)) (c4 : (List ByteArray))
    (h1 : SC cfg.P i_spec_trLeaf [.s (.v .str a0)] (.s (.v .bool false)) [])
    (h2 : SC cfg.P i_spec_trSides [.s (.v .str a0)] (.tup [.v .str c2a, .v .str c2b]) [])
    (h3 : SC cfg.P i_spec_lnLeft [.s (.v .str c2a)] (.s (.own t_string .str c3)) [])
    (h4 : sizeOK (List.length c3 + List.length ([(⟨#[76, 76]⟩ : ByteArray)] : List ByteArray)))
    (h5 : SC cfg.P i_spec_lnInner [.s (.v .str c2b)] (.s (.own t_string .str c4)) [])
    (h6 : sizeOK (List.length (c3 ++ ([(⟨#[76, 76]⟩ : ByteArray)] : List ByteArray)) + List.length c4)) :
    SC cfg.P i_spec_lnLeft [.s (.v .str a0)] (.s (.own t_string .str ((c3 ++ ([(⟨#[76, 76]⟩ : ByteArray)] : List ByteArray)) ++ c4))) [] :=
  SC_of_run cfgOK (its := [.res (.s (.v .bool false)) [] [] [], .res (.tup [.v .str c2a, .v .str c2b]) [] [] [], .res (.s (.own t_string .str c3)) [] [] [13], .res (.s (.own t_string .str c4)) [] [] [17]])
    (ps := [SC cfg.P i_spec_trLeaf [.s (.v .str a0)] (.s (.v .bool false)) [],
      SC cfg.P i_spec_trSides [.s (.v .str a0)] (.tup [.v .str c2a, .v .str c2b]) [],
      SC cfg.P i_spec_lnLeft [.s (.v .str c2a)] (.s (.own t_string .str c3)) [],
      sizeOK (List.length c3 + List.length ([(⟨#[76, 76]⟩ : ByteArray)] : List ByteArray)),
      SC cfg.P i_spec_lnInner [.s (.v .str c2b)] (.s (.own t_string .str c4)) [],
      sizeOK (List.length (c3 ++ ([(⟨#[76, 76]⟩ : ByteArray)] : List ByteArray)) + List.length c4)]) (by kernel_rfl) ⟨h1, h2, h3, h4, h5, h6, trivial⟩ get_spec_lnLeft (by decide)

/-! ### spec_lnRight -/


theorem spec_lnRight_p1 (a0 : ByteArray)
    (h1 : SC cfg.P i_spec_trLeaf [.s (.v .str a0)] (.s (.v .bool true)) []) :
    SC cfg.P i_spec_lnRight [.s (.v .str a0)] (.s (.own t_string .str ([] : List ByteArray))) [] :=
  SC_of_run cfgOK (its := [.res (.s (.v .bool true)) [] [] []])
    (ps := [SC cfg.P i_spec_trLeaf [.s (.v .str a0)] (.s (.v .bool true)) []]) (by kernel_rfl) ⟨h1, trivial⟩ get_spec_lnRight (by decide)

theorem spec_lnRight_p2 (a0 : ByteArray) (c2a : ByteArray) (c2b : ByteArray) (c3 : (List ByteArray)) (c4 : (List ByteArray))
    (h1 : SC cfg.P i_spec_trLeaf [.s (.v .str a0)] (.s (.v .bool false)) [])
    (h2 : SC cfg.P i_spec_trSides [.s (.v .str a0)] (.tup [.v .str c2a, .v .str c2b]) [])
    (h3 : SC cfg.P i_spec_lnInner [.s (.v .str c2a)] (.s (.own t_string .str c3)) [])
    (h4 : sizeOK (List.length c3 + List.length ([(⟨#[82]⟩ : ByteArray)] : List ByteArray)))
    (h5 : SC cfg.P i_spec_lnRight [.s (.v .str c2b)] (.s (.own t_string .str c4)) [])
    (h6 : sizeOK (List.length (c3 ++ ([(⟨#[82]⟩ : ByteArray)] : List ByteArray)) + List.length c4)) :
    SC cfg.P i_spec_lnRight [.s (.v .str a0)] (.s (.own t_string .str ((c3 ++ ([(⟨#[82]⟩ : ByteArray)] : List ByteArray)) ++ c4))) [] :=
  SC_of_run cfgOK (its := [.res (.s (.v .bool false)) [] [] [], .res (.tup [.v .str c2a, .v .str c2b]) [] [] [], .res (.s (.own t_string .str c3)) [] [] [13], .res (.s (.own t_string .str c4)) [] [] [17]])
    (ps := [SC cfg.P i_spec_trLeaf [.s (.v .str a0)] (.s (.v .bool false)) [],
      SC cfg.P i_spec_trSides [.s (.v .str a0)] (.tup [.v .str c2a, .v .str c2b]) [],
      SC cfg.P i_spec_lnInner [.s (.v .str c2a)] (.s (.own t_string .str c3)) [],
      sizeOK (List.length c3 + List.length ([(⟨#[82]⟩ : ByteArray)] : List ByteArray)),
      SC cfg.P i_spec_lnRight [.s (.v .str c2b)] (.s (.own t_string .str c4)) [],
      sizeOK (List.length (c3 ++ ([(⟨#[82]⟩ : ByteArray)] : List ByteArray)) + List.length c4)]) (by kernel_rfl) ⟨h1, h2, h3, h4, h5, h6, trivial⟩ get_spec_lnRight (by decide)

/-! ### spec_lnRow -/


def spec_lnRow_L0a (x0 : ByteArray) (x6 : Int) (x7 : Int) (xo5 : (List ByteArray)) : St := mkSt 17 [(0, .s (.v .str x0)), (5, .s (.osl 5 0)), (6, .s (.v (.int .i64) x6)), (7, .s (.v (.int .i64) x7))] [(5, .row t_string .str xo5 0 false)]

def spec_lnRow_L0X1 (y2 : Int) : St := mkSt 17 [(2, .s (.v (.int .i64) y2))] []

def spec_lnRow_L0X2 (y0 : ByteArray) (y6 : Int) (y7 : Int) (y8 : Bool) (yo5 : (List ByteArray)) : St := mkSt 17 [(0, .s (.v .str y0)), (5, .s (.osl 5 0)), (6, .s (.v (.int .i64) y6)), (7, .s (.v (.int .i64) y7)), (8, .s (.v .bool y8))] [(5, .row t_string .str yo5 0 false)]

theorem spec_lnRow_L0a_x1 (x0 : ByteArray) (x6 : Int) (x7 : Int) (xo5 : (List ByteArray))
    (h1 : x7 < x6)
    (h2 : 0 ≤ x7)
    (h3 : x7 < (List.length xo5 : Int))
    (h4 : (x7).toNat < List.length xo5)
    (h5 : (List.getD xo5 (x7).toNat (⟨#[]⟩ : ByteArray)) = x0) :
    LoopSC cfg.P 1 (lb P_spec_lnRow 0) (spec_lnRow_L0a x0 x6 x7 xo5) (.ret) (spec_lnRow_L0X1 x7) :=
  loop_out cfgOK (f := i_spec_lnRow) (its := [.bool true, .bool true])
    (ps := [decide (x7 < x6) = true,
      0 ≤ x7,
      x7 < (List.length xo5 : Int),
      (x7).toNat < List.length xo5,
      (((List.getD xo5 (x7).toNat (⟨#[]⟩ : ByteArray))).toList == (x0).toList) = true]) (by kernel_rfl) ⟨(decide_eq_true h1), h2, h3, h4, (seq_t h5), trivial⟩ (fun h => by cases h)

theorem spec_lnRow_L0a_i2 (x0 : ByteArray) (x6 : Int) (x7 : Int) (xo5 : (List ByteArray))
    (h1 : x7 < x6)
    (h2 : 0 ≤ x7)
    (h3 : x7 < (List.length xo5 : Int))
    (h4 : (x7).toNat < List.length xo5)
    (h5 : (List.getD xo5 (x7).toNat (⟨#[]⟩ : ByteArray)) ≠ x0)
    {e : AEx} {st : St} (next : LoopSC cfg.P 1 (lb P_spec_lnRow 0) (spec_lnRow_L0a x0 x6 (IntKind.wrap .i64 (x7 + (1 : Int))) xo5) e st) :
    LoopSC cfg.P 1 (lb P_spec_lnRow 0) (spec_lnRow_L0a x0 x6 x7 xo5) e st :=
  loop_iter cfgOK (f := i_spec_lnRow) (its := [.bool true, .bool false])
    (ps := [decide (x7 < x6) = true,
      0 ≤ x7,
      x7 < (List.length xo5 : Int),
      (x7).toNat < List.length xo5,
      (((List.getD xo5 (x7).toNat (⟨#[]⟩ : ByteArray))).toList == (x0).toList) = false]) (st1 := spec_lnRow_L0a x0 x6 (IntKind.wrap .i64 (x7 + (1 : Int))) xo5) (by kernel_rfl) ⟨(decide_eq_true h1), h2, h3, h4, (seq_f h5), trivial⟩ next

theorem spec_lnRow_L0a_x3 (x0 : ByteArray) (x6 : Int) (x7 : Int) (xo5 : (List ByteArray))
    (h1 : ¬ (x7 < x6)) :
    LoopSC cfg.P 1 (lb P_spec_lnRow 0) (spec_lnRow_L0a x0 x6 x7 xo5) (.exit 0) (spec_lnRow_L0X2 x0 x6 x7 false xo5) :=
  loop_out cfgOK (f := i_spec_lnRow) (its := [.bool false])
    (ps := [decide (x7 < x6) = false]) (by kernel_rfl) ⟨(decide_eq_false h1), trivial⟩ (fun h => by cases h)

theorem spec_lnRow_p1 (a0 : ByteArray) (k1y2 : Int)
    (h1 : LoopSC cfg.P 1 (lb P_spec_lnRow 0) (spec_lnRow_L0a a0 ((List.length ([(⟨#[82, 48]⟩ : ByteArray), (⟨#[82, 78]⟩ : ByteArray), (⟨#[82, 73]⟩ : ByteArray), (⟨#[76, 76]⟩ : ByteArray), (⟨#[73, 48]⟩ : ByteArray), (⟨#[73, 82]⟩ : ByteArray)] : List ByteArray) : Nat) : Int) (0 : Int) ([(⟨#[82, 48]⟩ : ByteArray), (⟨#[82, 78]⟩ : ByteArray), (⟨#[82, 73]⟩ : ByteArray), (⟨#[76, 76]⟩ : ByteArray), (⟨#[73, 48]⟩ : ByteArray), (⟨#[73, 82]⟩ : ByteArray)] : List ByteArray)) (.ret) (spec_lnRow_L0X1 k1y2)) :
    SC cfg.P i_spec_lnRow [.s (.v .str a0)] (.s (.v (.int .i64) k1y2)) [] :=
  SC_of_run cfgOK (its := [.loop (fun _ => (.ret, spec_lnRow_L0X1 k1y2))])
    (ps := [LoopSC cfg.P 1 (lb P_spec_lnRow 0) (spec_lnRow_L0a a0 ((List.length ([(⟨#[82, 48]⟩ : ByteArray), (⟨#[82, 78]⟩ : ByteArray), (⟨#[82, 73]⟩ : ByteArray), (⟨#[76, 76]⟩ : ByteArray), (⟨#[73, 48]⟩ : ByteArray), (⟨#[73, 82]⟩ : ByteArray)] : List ByteArray) : Nat) : Int) (0 : Int) ([(⟨#[82, 48]⟩ : ByteArray), (⟨#[82, 78]⟩ : ByteArray), (⟨#[82, 73]⟩ : ByteArray), (⟨#[76, 76]⟩ : ByteArray), (⟨#[73, 48]⟩ : ByteArray), (⟨#[73, 82]⟩ : ByteArray)] : List ByteArray)) (.ret) (spec_lnRow_L0X1 k1y2)]) (by kernel_rfl) ⟨h1, trivial⟩ get_spec_lnRow (by decide)

theorem spec_lnRow_p2 (a0 : ByteArray) (k1y0 : ByteArray) (k1y6 : Int) (k1y7 : Int) (k1y8 : Bool) (k1yo5 : (List ByteArray))
    (h1 : LoopSC cfg.P 1 (lb P_spec_lnRow 0) (spec_lnRow_L0a a0 ((List.length ([(⟨#[82, 48]⟩ : ByteArray), (⟨#[82, 78]⟩ : ByteArray), (⟨#[82, 73]⟩ : ByteArray), (⟨#[76, 76]⟩ : ByteArray), (⟨#[73, 48]⟩ : ByteArray), (⟨#[73, 82]⟩ : ByteArray)] : List ByteArray) : Nat) : Int) (0 : Int) ([(⟨#[82, 48]⟩ : ByteArray), (⟨#[82, 78]⟩ : ByteArray), (⟨#[82, 73]⟩ : ByteArray), (⟨#[76, 76]⟩ : ByteArray), (⟨#[73, 48]⟩ : ByteArray), (⟨#[73, 82]⟩ : ByteArray)] : List ByteArray)) (.exit 0) (spec_lnRow_L0X2 k1y0 k1y6 k1y7 k1y8 k1yo5)) :
    SC cfg.P i_spec_lnRow [.s (.v .str a0)] (.s (.v (.int .i64) (-1 : Int))) [] :=
  SC_of_run cfgOK (its := [.loop (fun _ => (.exit 0, spec_lnRow_L0X2 k1y0 k1y6 k1y7 k1y8 k1yo5))])
    (ps := [LoopSC cfg.P 1 (lb P_spec_lnRow 0) (spec_lnRow_L0a a0 ((List.length ([(⟨#[82, 48]⟩ : ByteArray), (⟨#[82, 78]⟩ : ByteArray), (⟨#[82, 73]⟩ : ByteArray), (⟨#[76, 76]⟩ : ByteArray), (⟨#[73, 48]⟩ : ByteArray), (⟨#[73, 82]⟩ : ByteArray)] : List ByteArray) : Nat) : Int) (0 : Int) ([(⟨#[82, 48]⟩ : ByteArray), (⟨#[82, 78]⟩ : ByteArray), (⟨#[82, 73]⟩ : ByteArray), (⟨#[76, 76]⟩ : ByteArray), (⟨#[73, 48]⟩ : ByteArray), (⟨#[73, 82]⟩ : ByteArray)] : List ByteArray)) (.exit 0) (spec_lnRow_L0X2 k1y0 k1y6 k1y7 k1y8 k1yo5)]) (by kernel_rfl) ⟨h1, trivial⟩ get_spec_lnRow (by decide)

/-! ### slices_IndexFunc_loopexampleg01161implmark -/


def slices_IndexFunc_loopexampleg01161implmark_L0a (x0 : (List (Int × Bool))) (x7 : Int) (x8 : Int) : St := mkSt 19 [(0, .s (.v (.sl (.pr (.int .i64) .bool)) x0)), (1, .fn i_impl_node_kinds_k1 [] []), (7, .s (.v (.int .i64) x7)), (8, .s (.v (.int .i64) x8))] []

def slices_IndexFunc_loopexampleg01161implmark_L0X1 (y4 : Int) : St := mkSt 19 [(4, .s (.v (.int .i64) y4))] []

def slices_IndexFunc_loopexampleg01161implmark_L0X2 (y0 : (List (Int × Bool))) (y7 : Int) (y8 : Int) (y9 : Bool) : St := mkSt 19 [(0, .s (.v (.sl (.pr (.int .i64) .bool)) y0)), (1, .fn i_impl_node_kinds_k1 [] []), (7, .s (.v (.int .i64) y7)), (8, .s (.v (.int .i64) y8)), (9, .s (.v .bool y9))] []

theorem slices_IndexFunc_loopexampleg01161implmark_L0a_x1 (x0 : (List (Int × Bool))) (x7 : Int) (x8 : Int)
    (h1 : x8 < x7)
    (h2 : 0 ≤ x8)
    (h3 : x8 < (List.length x0 : Int))
    (h4 : SC cfg.P i_impl_node_kinds_k1 [.s (.v (.pr (.int .i64) .bool) (List.getD x0 (x8).toNat ((0 : Int), false)))] (.s (.v .bool true)) []) :
    LoopSC cfg.P 2 (lb P_slices_IndexFunc_loopexampleg01161implmark 0) (slices_IndexFunc_loopexampleg01161implmark_L0a x0 x7 x8) (.ret) (slices_IndexFunc_loopexampleg01161implmark_L0X1 x8) :=
  loop_out cfgOK (f := i_slices_IndexFunc_loopexampleg01161implmark) (its := [.bool true, .res (.s (.v .bool true)) [] [] []])
    (ps := [decide (x8 < x7) = true,
      0 ≤ x8,
      x8 < (List.length x0 : Int),
      SC cfg.P i_impl_node_kinds_k1 [.s (.v (.pr (.int .i64) .bool) (List.getD x0 (x8).toNat ((0 : Int), false)))] (.s (.v .bool true)) []]) (by kernel_rfl) ⟨(decide_eq_true h1), h2, h3, h4, trivial⟩ (fun h => by cases h)

theorem slices_IndexFunc_loopexampleg01161implmark_L0a_i2 (x0 : (List (Int × Bool))) (x7 : Int) (x8 : Int)
    (h1 : x8 < x7)
    (h2 : 0 ≤ x8)
    (h3 : x8 < (List.length x0 : Int))
    (h4 : SC cfg.P i_impl_node_kinds_k1 [.s (.v (.pr (.int .i64) .bool) (List.getD x0 (x8).toNat ((0 : Int), false)))] (.s (.v .bool false)) [])
    {e : AEx} {st : St} (next : LoopSC cfg.P 2 (lb P_slices_IndexFunc_loopexampleg01161implmark 0) (slices_IndexFunc_loopexampleg01161implmark_L0a x0 x7 (IntKind.wrap .i64 (x8 + (1 : Int)))) e st) :
    LoopSC cfg.P 2 (lb P_slices_IndexFunc_loopexampleg01161implmark 0) (slices_IndexFunc_loopexampleg01161implmark_L0a x0 x7 x8) e st :=
  loop_iter cfgOK (f := i_slices_IndexFunc_loopexampleg01161implmark) (its := [.bool true, .res (.s (.v .bool false)) [] [] []])
    (ps := [decide (x8 < x7) = true,
      0 ≤ x8,
      x8 < (List.length x0 : Int),
      SC cfg.P i_impl_node_kinds_k1 [.s (.v (.pr (.int .i64) .bool) (List.getD x0 (x8).toNat ((0 : Int), false)))] (.s (.v .bool false)) []]) (st1 := slices_IndexFunc_loopexampleg01161implmark_L0a x0 x7 (IntKind.wrap .i64 (x8 + (1 : Int)))) (by kernel_rfl) ⟨(decide_eq_true h1), h2, h3, h4, trivial⟩ next

theorem slices_IndexFunc_loopexampleg01161implmark_L0a_x3 (x0 : (List (Int × Bool))) (x7 : Int) (x8 : Int)
    (h1 : ¬ (x8 < x7)) :
    LoopSC cfg.P 2 (lb P_slices_IndexFunc_loopexampleg01161implmark 0) (slices_IndexFunc_loopexampleg01161implmark_L0a x0 x7 x8) (.exit 0) (slices_IndexFunc_loopexampleg01161implmark_L0X2 x0 x7 x8 false) :=
  loop_out cfgOK (f := i_slices_IndexFunc_loopexampleg01161implmark) (its := [.bool false])
    (ps := [decide (x8 < x7) = false]) (by kernel_rfl) ⟨(decide_eq_false h1), trivial⟩ (fun h => by cases h)

theorem slices_IndexFunc_loopexampleg01161implmark_p1 (a0 : (List (Int × Bool))) (k1y4 : Int)
    (h1 : LoopSC cfg.P 2 (lb P_slices_IndexFunc_loopexampleg01161implmark 0) (slices_IndexFunc_loopexampleg01161implmark_L0a a0 ((List.length a0 : Nat) : Int) (0 : Int)) (.ret) (slices_IndexFunc_loopexampleg01161implmark_L0X1 k1y4)) :
    SC cfg.P i_slices_IndexFunc_loopexampleg01161implmark [.s (.v (.sl (.pr (.int .i64) .bool)) a0), .fn i_impl_node_kinds_k1 [] []] (.s (.v (.int .i64) k1y4)) [] :=
  SC_of_run cfgOK (its := [.loop (fun _ => (.ret, slices_IndexFunc_loopexampleg01161implmark_L0X1 k1y4))])
    (ps := [LoopSC cfg.P 2 (lb P_slices_IndexFunc_loopexampleg01161implmark 0) (slices_IndexFunc_loopexampleg01161implmark_L0a a0 ((List.length a0 : Nat) : Int) (0 : Int)) (.ret) (slices_IndexFunc_loopexampleg01161implmark_L0X1 k1y4)]) (by kernel_rfl) ⟨h1, trivial⟩ get_slices_IndexFunc_loopexampleg01161implmark (by decide)

theorem slices_IndexFunc_loopexampleg01161implmark_p2 (a0 : (List (Int × Bool))) (k1y0 : (List (Int × Bool))) (k1y7 : Int) (k1y8 : Int) (k1y9 : Bool)
    (h1 : LoopSC cfg.P 2 (lb P_slices_IndexFunc_loopexampleg01161implmark 0) (slices_IndexFunc_loopexampleg01161implmark_L0a a0 ((List.length a0 : Nat) : Int) (0 : Int)) (.exit 0) (slices_IndexFunc_loopexampleg01161implmark_L0X2 k1y0 k1y7 k1y8 k1y9)) :
    SC cfg.P i_slices_IndexFunc_loopexampleg01161implmark [.s (.v (.sl (.pr (.int .i64) .bool)) a0), .fn i_impl_node_kinds_k1 [] []] (.s (.v (.int .i64) (-1 : Int))) [] :=
  SC_of_run cfgOK (its := [.loop (fun _ => (.exit 0, slices_IndexFunc_loopexampleg01161implmark_L0X2 k1y0 k1y7 k1y8 k1y9))])
    (ps := [LoopSC cfg.P 2 (lb P_slices_IndexFunc_loopexampleg01161implmark 0) (slices_IndexFunc_loopexampleg01161implmark_L0a a0 ((List.length a0 : Nat) : Int) (0 : Int)) (.exit 0) (slices_IndexFunc_loopexampleg01161implmark_L0X2 k1y0 k1y7 k1y8 k1y9)]) (by kernel_rfl) ⟨h1, trivial⟩ get_slices_IndexFunc_loopexampleg01161implmark (by decide)

/-! ### spec_lnInner -/


theorem spec_lnInner_p1 (a0 : ByteArray)
    (h1 : SC cfg.P i_spec_trLeaf [.s (.v .str a0)] (.s (.v .bool true)) []) :
    SC cfg.P i_spec_lnInner [.s (.v .str a0)] (.s (.own t_string .str ([] : List ByteArray))) [] :=
  SC_of_run cfgOK (its := [.res (.s (.v .bool true)) [] [] []])
    (ps := [SC cfg.P i_spec_trLeaf [.s (.v .str a0)] (.s (.v .bool true)) []]) (by kernel_rfl) ⟨h1, trivial⟩ get_spec_lnInner (by decide)

theorem spec_lnInner_p2 (a0 : ByteArray) (c2a : ByteArray) (c2b : ByteArray) (c4 : (List ByteArray)) (c5 : (List ByteArray))
    (h1 : SC cfg.P i_spec_trLeaf [.s (.v .str a0)] (.s (.v .bool false)) [])
    (h2 : SC cfg.P i_spec_trSides [.s (.v .str a0)] (.tup [.v .str c2a, .v .str c2b]) [])
    (h3 : SC cfg.P i_spec_trLeaf [.s (.v .str c2b)] (.s (.v .bool true)) [])
    (h4 : SC cfg.P i_spec_lnInner [.s (.v .str c2a)] (.s (.own t_string .str c4)) [])
    (h5 : sizeOK (List.length c4 + List.length ([(⟨#[73, 48]⟩ : ByteArray)] : List ByteArray)))
    (h6 : SC cfg.P i_spec_lnInner [.s (.v .str c2b)] (.s (.own t_string .str c5)) [])
    (h7 : sizeOK (List.length (c4 ++ ([(⟨#[73, 48]⟩ : ByteArray)] : List ByteArray)) + List.length c5)) :
    SC cfg.P i_spec_lnInner [.s (.v .str a0)] (.s (.own t_string .str ((c4 ++ ([(⟨#[73, 48]⟩ : ByteArray)] : List ByteArray)) ++ c5))) [] :=
  SC_of_run cfgOK (its := [.res (.s (.v .bool false)) [] [] [], .res (.tup [.v .str c2a, .v .str c2b]) [] [] [], .res (.s (.v .bool true)) [] [] [], .res (.s (.own t_string .str c4)) [] [] [16], .res (.s (.own t_string .str c5)) [] [] [21]])
    (ps := [SC cfg.P i_spec_trLeaf [.s (.v .str a0)] (.s (.v .bool false)) [],
      SC cfg.P i_spec_trSides [.s (.v .str a0)] (.tup [.v .str c2a, .v .str c2b]) [],
      SC cfg.P i_spec_trLeaf [.s (.v .str c2b)] (.s (.v .bool true)) [],
      SC cfg.P i_spec_lnInner [.s (.v .str c2a)] (.s (.own t_string .str c4)) [],
      sizeOK (List.length c4 + List.length ([(⟨#[73, 48]⟩ : ByteArray)] : List ByteArray)),
      SC cfg.P i_spec_lnInner [.s (.v .str c2b)] (.s (.own t_string .str c5)) [],
      sizeOK (List.length (c4 ++ ([(⟨#[73, 48]⟩ : ByteArray)] : List ByteArray)) + List.length c5)]) (by kernel_rfl) ⟨h1, h2, h3, h4, h5, h6, h7, trivial⟩ get_spec_lnInner (by decide)

theorem spec_lnInner_p3 (a0 : ByteArray) (c2a : ByteArray) (c2b : ByteArray) (c4 : (List ByteArray)) (c5 : (List ByteArray))
    (h1 : SC cfg.P i_spec_trLeaf [.s (.v .str a0)] (.s (.v .bool false)) [])
    (h2 : SC cfg.P i_spec_trSides [.s (.v .str a0)] (.tup [.v .str c2a, .v .str c2b]) [])
    (h3 : SC cfg.P i_spec_trLeaf [.s (.v .str c2b)] (.s (.v .bool false)) [])
    (h4 : SC cfg.P i_spec_lnInner [.s (.v .str c2a)] (.s (.own t_string .str c4)) [])
    (h5 : sizeOK (List.length c4 + List.length ([(⟨#[73, 82]⟩ : ByteArray)] : List ByteArray)))
    (h6 : SC cfg.P i_spec_lnInner [.s (.v .str c2b)] (.s (.own t_string .str c5)) [])
    (h7 : sizeOK (List.length (c4 ++ ([(⟨#[73, 82]⟩ : ByteArray)] : List ByteArray)) + List.length c5)) :
    SC cfg.P i_spec_lnInner [.s (.v .str a0)] (.s (.own t_string .str ((c4 ++ ([(⟨#[73, 82]⟩ : ByteArray)] : List ByteArray)) ++ c5))) [] :=
  SC_of_run cfgOK (its := [.res (.s (.v .bool false)) [] [] [], .res (.tup [.v .str c2a, .v .str c2b]) [] [] [], .res (.s (.v .bool false)) [] [] [], .res (.s (.own t_string .str c4)) [] [] [16], .res (.s (.own t_string .str c5)) [] [] [21]])
    (ps := [SC cfg.P i_spec_trLeaf [.s (.v .str a0)] (.s (.v .bool false)) [],
      SC cfg.P i_spec_trSides [.s (.v .str a0)] (.tup [.v .str c2a, .v .str c2b]) [],
      SC cfg.P i_spec_trLeaf [.s (.v .str c2b)] (.s (.v .bool false)) [],
      SC cfg.P i_spec_lnInner [.s (.v .str c2a)] (.s (.own t_string .str c4)) [],
      sizeOK (List.length c4 + List.length ([(⟨#[73, 82]⟩ : ByteArray)] : List ByteArray)),
      SC cfg.P i_spec_lnInner [.s (.v .str c2b)] (.s (.own t_string .str c5)) [],
      sizeOK (List.length (c4 ++ ([(⟨#[73, 82]⟩ : ByteArray)] : List ByteArray)) + List.length c5)]) (by kernel_rfl) ⟨h1, h2, h3, h4, h5, h6, h7, trivial⟩ get_spec_lnInner (by decide)

end Go.AI
