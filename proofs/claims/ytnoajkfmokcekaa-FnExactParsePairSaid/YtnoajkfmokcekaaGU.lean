/- A part of the road: what it proves stands in its last texts. -/
import Derived.Test.YtnoajkfmokcekaaSIds
import Derived.Test.YtnoajkfmokcekaaProg
set_option autoImplicit false
set_option maxRecDepth 100000
set_option linter.unusedVariables false
namespace Go.AI
open Go.Proofs

/-! ### strings_Cut -/


theorem strings_Cut_p1 (a0 : ByteArray) (a1 : ByteArray) (c1a : ByteArray) (c1b : ByteArray) (c1c : Bool)
    (h1 : SC cfg.P i_internal_stringslite_Cut [.s (.v .str a0), .s (.v .str a1)] (.tup [.v .str c1a, .v .str c1b, .v .bool c1c]) []) :
    SC cfg.P i_strings_Cut [.s (.v .str a0), .s (.v .str a1)] (.tup [.v .str c1a, .v .str c1b, .v .bool c1c]) [] :=
  SC_of_run cfgOK (its := [.res (.tup [.v .str c1a, .v .str c1b, .v .bool c1c]) [] [] []])
    (ps := [SC cfg.P i_internal_stringslite_Cut [.s (.v .str a0), .s (.v .str a1)] (.tup [.v .str c1a, .v .str c1b, .v .bool c1c]) []]) (by kernel_rfl) ⟨h1, trivial⟩ get_strings_Cut (by decide)

/-! ### internal_stringslite_Cut -/


theorem internal_stringslite_Cut_p1 (a0 : ByteArray) (a1 : ByteArray) (c1 : Int)
    (h1 : SC cfg.P i_internal_stringslite_Index [.s (.v .str a0), .s (.v .str a1)] (.s (.v (.int .i64) c1)) [])
    (h2 : c1 ≥ (0 : Int))
    (h3 : 0 ≤ c1)
    (h4 : c1 ≤ ((a0).size : Int))
    (h5 : 0 ≤ (IntKind.wrap .i64 (c1 + ((a1).size : Int))))
    (h6 : (IntKind.wrap .i64 (c1 + ((a1).size : Int))) ≤ ((a0).size : Int)) :
    SC cfg.P i_internal_stringslite_Cut [.s (.v .str a0), .s (.v .str a1)] (.tup [.v .str (ByteArray.extract a0 ((0 : Int)).toNat (c1).toNat), .v .str (ByteArray.extract a0 ((IntKind.wrap .i64 (c1 + ((a1).size : Int)))).toNat (((a0).size : Int)).toNat), .v .bool true]) [] :=
  SC_of_run cfgOK (its := [.res (.s (.v (.int .i64) c1)) [] [] [], .bool true])
    (ps := [SC cfg.P i_internal_stringslite_Index [.s (.v .str a0), .s (.v .str a1)] (.s (.v (.int .i64) c1)) [],
      decide (c1 ≥ (0 : Int)) = true,
      0 ≤ c1,
      c1 ≤ ((a0).size : Int),
      0 ≤ (IntKind.wrap .i64 (c1 + ((a1).size : Int))),
      (IntKind.wrap .i64 (c1 + ((a1).size : Int))) ≤ ((a0).size : Int)]) (by kernel_rfl) ⟨h1, (decide_eq_true h2), h3, h4, h5, h6, trivial⟩ get_internal_stringslite_Cut (by decide)

theorem internal_stringslite_Cut_p2 (a0 : ByteArray) (a1 : ByteArray) (c1 : Int)
    (h1 : SC cfg.P i_internal_stringslite_Index [.s (.v .str a0), .s (.v .str a1)] (.s (.v (.int .i64) c1)) [])
    (h2 : ¬ (c1 ≥ (0 : Int))) :
    SC cfg.P i_internal_stringslite_Cut [.s (.v .str a0), .s (.v .str a1)] (.tup [.v .str a0, .v .str (⟨#[]⟩ : ByteArray), .v .bool false]) [] :=
  SC_of_run cfgOK (its := [.res (.s (.v (.int .i64) c1)) [] [] [], .bool false])
    (ps := [SC cfg.P i_internal_stringslite_Index [.s (.v .str a0), .s (.v .str a1)] (.s (.v (.int .i64) c1)) [],
      decide (c1 ≥ (0 : Int)) = false]) (by kernel_rfl) ⟨h1, (decide_eq_false h2), trivial⟩ get_internal_stringslite_Cut (by decide)

/-! ### internal_stringslite_Index -/


theorem internal_stringslite_Index_p1 (a0 : ByteArray) (a1 : ByteArray)
    (h1 : ((a1).size : Int) = (0 : Int)) :
    SC cfg.P i_internal_stringslite_Index [.s (.v .str a0), .s (.v .str a1)] (.s (.v (.int .i64) (0 : Int))) [] :=
  SC_of_run cfgOK (its := [.bool true])
    (ps := [(((a1).size : Int) == (0 : Int)) = true]) (by kernel_rfl) ⟨(beq_t h1), trivial⟩ get_internal_stringslite_Index (by decide)

theorem internal_stringslite_Index_p2 (a0 : ByteArray) (a1 : ByteArray)
    (h1 : ((a1).size : Int) ≠ (0 : Int))
    (h2 : a1 = a0) :
    SC cfg.P i_internal_stringslite_Index [.s (.v .str a0), .s (.v .str a1)] (.s (.v (.int .i64) (0 : Int))) [] :=
  SC_of_run cfgOK (its := [.bool false, .bool true])
    (ps := [(((a1).size : Int) == (0 : Int)) = false,
      ((a1).toList == (a0).toList) = true]) (by kernel_rfl) ⟨(beq_f h1), (seq_t h2), trivial⟩ get_internal_stringslite_Index (by decide)

theorem internal_stringslite_Index_p3 (a0 : ByteArray) (a1 : ByteArray) (c1 : Int)
    (h1 : ((a1).size : Int) ≠ (0 : Int))
    (h2 : a1 ≠ a0)
    (h3 : ((a1).size : Int) = (1 : Int))
    (h4 : (0 : Int) < ((a1).size : Int))
    (h5 : SC cfg.P i_internal_stringslite_IndexByte [.s (.v .str a0), .s (.v (.int .u8) (bt a1 (0 : Int)))] (.s (.v (.int .i64) c1)) []) :
    SC cfg.P i_internal_stringslite_Index [.s (.v .str a0), .s (.v .str a1)] (.s (.v (.int .i64) c1)) [] :=
  SC_of_run cfgOK (its := [.bool false, .bool false, .bool true, .res (.s (.v (.int .i64) c1)) [] [] []])
    (ps := [(((a1).size : Int) == (0 : Int)) = false,
      ((a1).toList == (a0).toList) = false,
      (((a1).size : Int) == (1 : Int)) = true,
      0 ≤ (0 : Int),
      (0 : Int) < ((a1).size : Int),
      SC cfg.P i_internal_stringslite_IndexByte [.s (.v .str a0), .s (.v (.int .u8) (bt a1 (0 : Int)))] (.s (.v (.int .i64) c1)) []]) (by kernel_rfl) ⟨(beq_f h1), (seq_f h2), (beq_t h3), (by decide), h4, h5, trivial⟩ get_internal_stringslite_Index (by decide)

theorem internal_stringslite_Index_p4 (a0 : ByteArray) (a1 : ByteArray)
    (h1 : ((a1).size : Int) ≠ (0 : Int))
    (h2 : a1 ≠ a0)
    (h3 : ((a1).size : Int) ≠ (1 : Int))
    (h4 : ((a1).size : Int) ≥ ((a0).size : Int)) :
    SC cfg.P i_internal_stringslite_Index [.s (.v .str a0), .s (.v .str a1)] (.s (.v (.int .i64) (-1 : Int))) [] :=
  SC_of_run cfgOK (its := [.bool false, .bool false, .bool false, .bool true])
    (ps := [(((a1).size : Int) == (0 : Int)) = false,
      ((a1).toList == (a0).toList) = false,
      (((a1).size : Int) == (1 : Int)) = false,
      decide (((a1).size : Int) ≥ ((a0).size : Int)) = true]) (by kernel_rfl) ⟨(beq_f h1), (seq_f h2), (beq_f h3), (decide_eq_true h4), trivial⟩ get_internal_stringslite_Index (by decide)

-- internal_stringslite_Index: global at "strings.go:37" load   [(((a1).size : Int) == (0 : Int))=False; ((a1).toList == (a0).toList)=False; (((a1).size : Int) == (1 : Int))=False; decide (((a1).size : Int) ≥ ((a0).size : Int))=False]

end Go.AI
