/- A part of the road: what it proves stands in its last texts. -/
import Derived.Test.YtlhkdglakjkpiaaSIds
import Derived.Test.YtlhkdglakjkpiaaProg
set_option autoImplicit false
set_option maxRecDepth 100000
set_option linter.unusedVariables false
namespace Go.AI
open Go.Proofs

/-! ### laws_FnExactCarrierOf -/


theorem laws_FnExactCarrierOf_p1 (a0 : (Int × Int)) (a1 : (Int × Int)) (c1 : (Int × Int)) (c2 : (Int × Int)) (c3a : (ByteArray × ByteArray)) (c3b : Bool) (c4 : (Int × Int)) (c5 : (Int × Int)) (c6a : (ByteArray × ByteArray)) (c6b : Bool)
    (h1 : SC cfg.P i_laws_toFraction [.s (.v (.pr (.int .i64) (.int .i64)) a0)] (.s (.v (.pr (.int .i64) (.int .i64)) c1)) [])
    (h2 : SC cfg.P i_laws_toFraction [.s (.v (.pr (.int .i64) (.int .i64)) a1)] (.s (.v (.pr (.int .i64) (.int .i64)) c2)) [])
    (h3 : SC cfg.P i_spec_CarrierOf [.s (.v (.pr (.int .i64) (.int .i64)) c1), .s (.v (.pr (.int .i64) (.int .i64)) c2)] (.tup [.v (.pr .str .str) c3a, .v .bool c3b]) [])
    (h4 : SC cfg.P i_laws_toFraction [.s (.v (.pr (.int .i64) (.int .i64)) a0)] (.s (.v (.pr (.int .i64) (.int .i64)) c4)) [])
    (h5 : SC cfg.P i_laws_toFraction [.s (.v (.pr (.int .i64) (.int .i64)) a1)] (.s (.v (.pr (.int .i64) (.int .i64)) c5)) [])
    (h6 : SC cfg.P i_impl_CarrierOf [.s (.v (.pr (.int .i64) (.int .i64)) c4), .s (.v (.pr (.int .i64) (.int .i64)) c5)] (.tup [.v (.pr .str .str) c6a, .v .bool c6b]) [])
    (h7 : SC cfg.P i_laws_eqPair [.s (.v (.pr .str .str) c6a), .s (.v (.pr .str .str) c3a)] (.s (.v .bool true)) [])
    (h8 : (!(c6b == c3b)) = false) :
    SC cfg.P i_laws_FnExactCarrierOf [.s (.v (.pr (.int .i64) (.int .i64)) a0), .s (.v (.pr (.int .i64) (.int .i64)) a1)] (.s (.v .bool true)) [] :=
  SC_of_run cfgOK (its := [.res (.s (.v (.pr (.int .i64) (.int .i64)) c1)) [] [] [], .res (.s (.v (.pr (.int .i64) (.int .i64)) c2)) [] [] [], .res (.tup [.v (.pr .str .str) c3a, .v .bool c3b]) [] [] [], .res (.s (.v (.pr (.int .i64) (.int .i64)) c4)) [] [] [], .res (.s (.v (.pr (.int .i64) (.int .i64)) c5)) [] [] [], .res (.tup [.v (.pr .str .str) c6a, .v .bool c6b]) [] [] [], .res (.s (.v .bool true)) [] [] [], .bool false])
    (ps := [SC cfg.P i_laws_toFraction [.s (.v (.pr (.int .i64) (.int .i64)) a0)] (.s (.v (.pr (.int .i64) (.int .i64)) c1)) [],
      SC cfg.P i_laws_toFraction [.s (.v (.pr (.int .i64) (.int .i64)) a1)] (.s (.v (.pr (.int .i64) (.int .i64)) c2)) [],
      SC cfg.P i_spec_CarrierOf [.s (.v (.pr (.int .i64) (.int .i64)) c1), .s (.v (.pr (.int .i64) (.int .i64)) c2)] (.tup [.v (.pr .str .str) c3a, .v .bool c3b]) [],
      SC cfg.P i_laws_toFraction [.s (.v (.pr (.int .i64) (.int .i64)) a0)] (.s (.v (.pr (.int .i64) (.int .i64)) c4)) [],
      SC cfg.P i_laws_toFraction [.s (.v (.pr (.int .i64) (.int .i64)) a1)] (.s (.v (.pr (.int .i64) (.int .i64)) c5)) [],
      SC cfg.P i_impl_CarrierOf [.s (.v (.pr (.int .i64) (.int .i64)) c4), .s (.v (.pr (.int .i64) (.int .i64)) c5)] (.tup [.v (.pr .str .str) c6a, .v .bool c6b]) [],
      SC cfg.P i_laws_eqPair [.s (.v (.pr .str .str) c6a), .s (.v (.pr .str .str) c3a)] (.s (.v .bool true)) [],
      (!(c6b == c3b)) = false]) (by kernel_rfl) ⟨h1, h2, h3, h4, h5, h6, h7, h8, trivial⟩ get_laws_FnExactCarrierOf (by decide)

/-! ### spec_CarrierOf -/


theorem spec_CarrierOf_p1 (a0 : (Int × Int)) (a1 : (Int × Int))
    (h1 : SC cfg.P i_spec_mpGood [.s (.v (.pr (.int .i64) (.int .i64)) a0)] (.s (.v .bool true)) [])
    (h2 : SC cfg.P i_spec_mpGood [.s (.v (.pr (.int .i64) (.int .i64)) a1)] (.s (.v .bool true)) [])
    (h3 : a0.2 = (1 : Int)) :
    SC cfg.P i_spec_CarrierOf [.s (.v (.pr (.int .i64) (.int .i64)) a0), .s (.v (.pr (.int .i64) (.int .i64)) a1)] (.tup [.v (.pr .str .str) ((⟨#[]⟩ : ByteArray), (⟨#[]⟩ : ByteArray)), .v .bool false]) [] :=
  SC_of_run cfgOK (its := [.res (.s (.v .bool true)) [] [] [], .res (.s (.v .bool true)) [] [] [], .bool true])
    (ps := [SC cfg.P i_spec_mpGood [.s (.v (.pr (.int .i64) (.int .i64)) a0)] (.s (.v .bool true)) [],
      SC cfg.P i_spec_mpGood [.s (.v (.pr (.int .i64) (.int .i64)) a1)] (.s (.v .bool true)) [],
      (a0.2 == (1 : Int)) = true]) (by kernel_rfl) ⟨h1, h2, (beq_t h3), trivial⟩ get_spec_CarrierOf (by decide)

theorem spec_CarrierOf_p2 (a0 : (Int × Int)) (a1 : (Int × Int))
    (h1 : SC cfg.P i_spec_mpGood [.s (.v (.pr (.int .i64) (.int .i64)) a0)] (.s (.v .bool true)) [])
    (h2 : SC cfg.P i_spec_mpGood [.s (.v (.pr (.int .i64) (.int .i64)) a1)] (.s (.v .bool true)) [])
    (h3 : a0.2 ≠ (1 : Int))
    (h4 : a1.2 = (1 : Int)) :
    SC cfg.P i_spec_CarrierOf [.s (.v (.pr (.int .i64) (.int .i64)) a0), .s (.v (.pr (.int .i64) (.int .i64)) a1)] (.tup [.v (.pr .str .str) ((⟨#[]⟩ : ByteArray), (⟨#[]⟩ : ByteArray)), .v .bool false]) [] :=
  SC_of_run cfgOK (its := [.res (.s (.v .bool true)) [] [] [], .res (.s (.v .bool true)) [] [] [], .bool false, .bool true])
    (ps := [SC cfg.P i_spec_mpGood [.s (.v (.pr (.int .i64) (.int .i64)) a0)] (.s (.v .bool true)) [],
      SC cfg.P i_spec_mpGood [.s (.v (.pr (.int .i64) (.int .i64)) a1)] (.s (.v .bool true)) [],
      (a0.2 == (1 : Int)) = false,
      (a1.2 == (1 : Int)) = true]) (by kernel_rfl) ⟨h1, h2, (beq_f h3), (beq_t h4), trivial⟩ get_spec_CarrierOf (by decide)

theorem spec_CarrierOf_p3 (a0 : (Int × Int)) (a1 : (Int × Int)) (c3a : ByteArray) (c3b : Int) (c4a : ByteArray) (c4b : Int) (c5 : Int) (c6 : Int) (c7 : Int) (c8 : Int) (c9 : ByteArray) (c10 : ByteArray) (c11 : Int) (c12 : Int) (c13 : ByteArray) (c14 : ByteArray) (c15 : Int) (c16 : ByteArray) (c17 : ByteArray) (c18 : Int) (c19 : ByteArray) (c20 : ByteArray) (c21 : (ByteArray × ByteArray)) (c22a : (ByteArray × ByteArray)) (c22b : Bool)
    (h1 : SC cfg.P i_spec_mpGood [.s (.v (.pr (.int .i64) (.int .i64)) a0)] (.s (.v .bool true)) [])
    (h2 : SC cfg.P i_spec_mpGood [.s (.v (.pr (.int .i64) (.int .i64)) a1)] (.s (.v .bool true)) [])
    (h3 : a0.2 ≠ (1 : Int))
    (h4 : a1.2 ≠ (1 : Int))
    (h5 : SC cfg.P i_spec_obStart [.s (.v (.pr (.int .i64) (.int .i64)) a0)] (.tup [.v .str c3a, .v (.int .i64) c3b]) [])
    (h6 : SC cfg.P i_spec_obStart [.s (.v (.pr (.int .i64) (.int .i64)) a1)] (.tup [.v .str c4a, .v (.int .i64) c4b]) [])
    (h7 : SC cfg.P i_spec_trCarets [.s (.v .str c3a)] (.s (.v (.int .i64) c5)) [])
    (h8 : SC cfg.P i_spec_trCarets [.s (.v .str c4a)] (.s (.v (.int .i64) c6)) [])
    (h9 : SC cfg.P i_spec_trCarets [.s (.v .str c3a)] (.s (.v (.int .i64) c7)) [])
    (h10 : SC cfg.P i_spec_l1Most [.s (.v (.int .i64) (0 : Int)), .s (.v (.int .i64) (IntKind.wrap .i64 ((IntKind.wrap .i64 ((IntKind.wrap .i64 (c6 + (1 : Int))) - c4b)) - (IntKind.wrap .i64 ((IntKind.wrap .i64 (c5 + (1 : Int))) - c3b)))))] (.s (.v (.int .i64) c8)) [])
    (h11 : SC cfg.P i_spec_trRight [.s (.v (.int .i64) c8)] (.s (.v .str c9)) [])
    (h12 : SC cfg.P i_spec_trGraft [.s (.v .str c3a), .s (.v (.int .i64) c7), .s (.v .str c9)] (.s (.v .str c10)) [])
    (h13 : SC cfg.P i_spec_trCarets [.s (.v .str c4a)] (.s (.v (.int .i64) c11)) [])
    (h14 : SC cfg.P i_spec_l1Most [.s (.v (.int .i64) (0 : Int)), .s (.v (.int .i64) (IntKind.wrap .i64 ((IntKind.wrap .i64 ((IntKind.wrap .i64 (c5 + (1 : Int))) - c3b)) - (IntKind.wrap .i64 ((IntKind.wrap .i64 (c6 + (1 : Int))) - c4b)))))] (.s (.v (.int .i64) c12)) [])
    (h15 : SC cfg.P i_spec_trRight [.s (.v (.int .i64) c12)] (.s (.v .str c13)) [])
    (h16 : SC cfg.P i_spec_trGraft [.s (.v .str c4a), .s (.v (.int .i64) c11), .s (.v .str c13)] (.s (.v .str c14)) [])
    (h17 : SC cfg.P i_spec_l1Most [.s (.v (.int .i64) (0 : Int)), .s (.v (.int .i64) (IntKind.wrap .i64 (c4b - c3b)))] (.s (.v (.int .i64) c15)) [])
    (h18 : SC cfg.P i_spec_trRight [.s (.v (.int .i64) c15)] (.s (.v .str c16)) [])
    (h19 : SC cfg.P i_spec_trGraft [.s (.v .str c10), .s (.v (.int .i64) (0 : Int)), .s (.v .str c16)] (.s (.v .str c17)) [])
    (h20 : SC cfg.P i_spec_l1Most [.s (.v (.int .i64) (0 : Int)), .s (.v (.int .i64) (IntKind.wrap .i64 (c3b - c4b)))] (.s (.v (.int .i64) c18)) [])
    (h21 : SC cfg.P i_spec_trRight [.s (.v (.int .i64) c18)] (.s (.v .str c19)) [])
    (h22 : SC cfg.P i_spec_trGraft [.s (.v .str c14), .s (.v (.int .i64) (0 : Int)), .s (.v .str c19)] (.s (.v .str c20)) [])
    (h23 : SC cfg.P i_spec_prReduce [.s (.v (.pr .str .str) (c17, c20)), .s (.v (.sl (.int .i64)) ([] : List Int))] (.s (.v (.pr .str .str) c21)) [])
    (h24 : SC cfg.P i_spec_prIf [.s (.v (.pr .str .str) c21)] (.tup [.v (.pr .str .str) c22a, .v .bool c22b]) []) :
    SC cfg.P i_spec_CarrierOf [.s (.v (.pr (.int .i64) (.int .i64)) a0), .s (.v (.pr (.int .i64) (.int .i64)) a1)] (.tup [.v (.pr .str .str) c22a, .v .bool c22b]) [] :=
  SC_of_run cfgOK (its := [.res (.s (.v .bool true)) [] [] [], .res (.s (.v .bool true)) [] [] [], .bool false, .bool false, .res (.tup [.v .str c3a, .v (.int .i64) c3b]) [] [] [], .res (.tup [.v .str c4a, .v (.int .i64) c4b]) [] [] [], .res (.s (.v (.int .i64) c5)) [] [] [], .res (.s (.v (.int .i64) c6)) [] [] [], .res (.s (.v (.int .i64) c7)) [] [] [], .res (.s (.v (.int .i64) c8)) [] [] [], .res (.s (.v .str c9)) [] [] [], .res (.s (.v .str c10)) [] [] [], .res (.s (.v (.int .i64) c11)) [] [] [], .res (.s (.v (.int .i64) c12)) [] [] [], .res (.s (.v .str c13)) [] [] [], .res (.s (.v .str c14)) [] [] [], .res (.s (.v (.int .i64) c15)) [] [] [], .res (.s (.v .str c16)) [] [] [], .res (.s (.v .str c17)) [] [] [], .res (.s (.v (.int .i64) c18)) [] [] [], .res (.s (.v .str c19)) [] [] [], .res (.s (.v .str c20)) [] [] [], .res (.s (.v (.pr .str .str) c21)) [] [] [], .res (.tup [.v (.pr .str .str) c22a, .v .bool c22b]) [] [] []])
    (ps := [SC cfg.P i_spec_mpGood [.s (.v (.pr (.int .i64) (.int .i64)) a0)] (.s (.v .bool true)) [],
      SC cfg.P i_spec_mpGood [.s (.v (.pr (.int .i64) (.int .i64)) a1)] (.s (.v .bool true)) [],
      (a0.2 == (1 : Int)) = false,
      (a1.2 == (1 : Int)) = false,
      SC cfg.P i_spec_obStart [.s (.v (.pr (.int .i64) (.int .i64)) a0)] (.tup [.v .str c3a, .v (.int .i64) c3b]) [],
      SC cfg.P i_spec_obStart [.s (.v (.pr (.int .i64) (.int .i64)) a1)] (.tup [.v .str c4a, .v (.int .i64) c4b]) [],
      SC cfg.P i_spec_trCarets [.s (.v .str c3a)] (.s (.v (.int .i64) c5)) [],
      SC cfg.P i_spec_trCarets [.s (.v .str c4a)] (.s (.v (.int .i64) c6)) [],
      SC cfg.P i_spec_trCarets [.s (.v .str c3a)] (.s (.v (.int .i64) c7)) [],
      SC cfg.P i_spec_l1Most [.s (.v (.int .i64) (0 : Int)), .s (.v (.int .i64) (IntKind.wrap .i64 ((IntKind.wrap .i64 ((IntKind.wrap .i64 (c6 + (1 : Int))) - c4b)) - (IntKind.wrap .i64 ((IntKind.wrap .i64 (c5 + (1 : Int))) - c3b)))))] (.s (.v (.int .i64) c8)) [],
      SC cfg.P i_spec_trRight [.s (.v (.int .i64) c8)] (.s (.v .str c9)) [],
      SC cfg.P i_spec_trGraft [.s (.v .str c3a), .s (.v (.int .i64) c7), .s (.v .str c9)] (.s (.v .str c10)) [],
      SC cfg.P i_spec_trCarets [.s (.v .str c4a)] (.s (.v (.int .i64) c11)) [],
      SC cfg.P i_spec_l1Most [.s (.v (.int .i64) (0 : Int)), .s (.v (.int .i64) (IntKind.wrap .i64 ((IntKind.wrap .i64 ((IntKind.wrap .i64 (c5 + (1 : Int))) - c3b)) - (IntKind.wrap .i64 ((IntKind.wrap .i64 (c6 + (1 : Int))) - c4b)))))] (.s (.v (.int .i64) c12)) [],
      SC cfg.P i_spec_trRight [.s (.v (.int .i64) c12)] (.s (.v .str c13)) [],
      SC cfg.P i_spec_trGraft [.s (.v .str c4a), .s (.v (.int .i64) c11), .s (.v .str c13)] (.s (.v .str c14)) [],
      SC cfg.P i_spec_l1Most [.s (.v (.int .i64) (0 : Int)), .s (.v (.int .i64) (IntKind.wrap .i64 (c4b - c3b)))] (.s (.v (.int .i64) c15)) [],
      SC cfg.P i_spec_trRight [.s (.v (.int .i64) c15)] (.s (.v .str c16)) [],
      SC cfg.P i_spec_trGraft [.s (.v .str c10), .s (.v (.int .i64) (0 : Int)), .s (.v .str c16)] (.s (.v .str c17)) [],
      SC cfg.P i_spec_l1Most [.s (.v (.int .i64) (0 : Int)), .s (.v (.int .i64) (IntKind.wrap .i64 (c3b - c4b)))] (.s (.v (.int .i64) c18)) [],
      SC cfg.P i_spec_trRight [.s (.v (.int .i64) c18)] (.s (.v .str c19)) [],
      SC cfg.P i_spec_trGraft [.s (.v .str c14), .s (.v (.int .i64) (0 : Int)), .s (.v .str c19)] (.s (.v .str c20)) [],
      SC cfg.P i_spec_prReduce [.s (.v (.pr .str .str) (c17, c20)), .s (.v (.sl (.int .i64)) ([] : List Int))] (.s (.v (.pr .str .str) c21)) [],
      SC cfg.P i_spec_prIf [.s (.v (.pr .str .str) c21)] (.tup [.v (.pr .str .str) c22a, .v .bool c22b]) []]) (by kernel_rfl) ⟨h1, h2, (beq_f h3), (beq_f h4), h5, h6, h7, h8, h9, h10, h11, h12, h13, h14, h15, h16, h17, h18, h19, h20, h21, h22, h23, h24, trivial⟩ get_spec_CarrierOf (by decide)

theorem spec_CarrierOf_p4 (a0 : (Int × Int)) (a1 : (Int × Int))
    (h1 : SC cfg.P i_spec_mpGood [.s (.v (.pr (.int .i64) (.int .i64)) a0)] (.s (.v .bool true)) [])
    (h2 : SC cfg.P i_spec_mpGood [.s (.v (.pr (.int .i64) (.int .i64)) a1)] (.s (.v .bool false)) []) :
    SC cfg.P i_spec_CarrierOf [.s (.v (.pr (.int .i64) (.int .i64)) a0), .s (.v (.pr (.int .i64) (.int .i64)) a1)] (.tup [.v (.pr .str .str) ((⟨#[]⟩ : ByteArray), (⟨#[]⟩ : ByteArray)), .v .bool false]) [] :=
  SC_of_run cfgOK (its := [.res (.s (.v .bool true)) [] [] [], .res (.s (.v .bool false)) [] [] []])
    (ps := [SC cfg.P i_spec_mpGood [.s (.v (.pr (.int .i64) (.int .i64)) a0)] (.s (.v .bool true)) [],
      SC cfg.P i_spec_mpGood [.s (.v (.pr (.int .i64) (.int .i64)) a1)] (.s (.v .bool false)) []]) (by kernel_rfl) ⟨h1, h2, trivial⟩ get_spec_CarrierOf (by decide)

theorem spec_CarrierOf_p5 (a0 : (Int × Int)) (a1 : (Int × Int))
    (h1 : SC cfg.P i_spec_mpGood [.s (.v (.pr (.int .i64) (.int .i64)) a0)] (.s (.v .bool false)) []) :
    SC cfg.P i_spec_CarrierOf [.s (.v (.pr (.int .i64) (.int .i64)) a0), .s (.v (.pr (.int .i64) (.int .i64)) a1)] (.tup [.v (.pr .str .str) ((⟨#[]⟩ : ByteArray), (⟨#[]⟩ : ByteArray)), .v .bool false]) [] :=
  SC_of_run cfgOK (its := [.res (.s (.v .bool false)) [] [] []])
    (ps := [SC cfg.P i_spec_mpGood [.s (.v (.pr (.int .i64) (.int .i64)) a0)] (.s (.v .bool false)) []]) (by kernel_rfl) ⟨h1, trivial⟩ get_spec_CarrierOf (by decide)

/-! ### impl_CarrierOf -/


theorem impl_CarrierOf_p1 (a0 : (Int × Int)) (a1 : (Int × Int)) (c3 : Int) (c4 : Tr) (c5 : Int) (c6 : Tr) (c7 : Int) (c8a : Int) (c8b : Int) (c9 : Int) (c10a : Int) (c10b : Int) (c11 : Tr) (c12 : Tr) (c13 : (Tr × Tr)) (c14a : (ByteArray × ByteArray)) (c14b : Bool)
    (h1 : SC cfg.P i_impl_isBetween [.s (.v (.pr (.int .i64) (.int .i64)) a0)] (.s (.v .bool true)) [])
    (h2 : SC cfg.P i_impl_isBetween [.s (.v (.pr (.int .i64) (.int .i64)) a1)] (.s (.v .bool true)) [])
    (h3 : SC cfg.P i_impl_Fraction_place [.s (.v (.pr (.int .i64) (.int .i64)) a0)] (.s (.v (.int .i64) c3)) [])
    (h4 : SC cfg.P i_impl_starting [.s (.v (.int .i64) c3), .s (.v .str (⟨#[]⟩ : ByteArray))] (.s (.v .tree c4)) [])
    (h5 : SC cfg.P i_impl_Fraction_place [.s (.v (.pr (.int .i64) (.int .i64)) a1)] (.s (.v (.int .i64) c5)) [])
    (h6 : SC cfg.P i_impl_starting [.s (.v (.int .i64) c5), .s (.v .str (⟨#[]⟩ : ByteArray))] (.s (.v .tree c6)) [])
    (h7 : SC cfg.P i_impl_Fraction_place [.s (.v (.pr (.int .i64) (.int .i64)) a0)] (.s (.v (.int .i64) c7)) [])
    (h8 : SC cfg.P i_impl_sides [.s (.v .tree c4), .s (.v (.int .i64) c7)] (.tup [.v (.int .i64) c8a, .v (.int .i64) c8b]) [])
    (h9 : SC cfg.P i_impl_Fraction_place [.s (.v (.pr (.int .i64) (.int .i64)) a1)] (.s (.v (.int .i64) c9)) [])
    (h10 : SC cfg.P i_impl_sides [.s (.v .tree c6), .s (.v (.int .i64) c9)] (.tup [.v (.int .i64) c10a, .v (.int .i64) c10b]) [])
    (h11 : SC cfg.P i_impl_padded [.s (.v .tree c4), .s (.v (.int .i64) (maxI (0 : Int) (IntKind.wrap .i64 (c10a - c8a)))), .s (.v (.int .i64) (maxI (0 : Int) (IntKind.wrap .i64 (c10b - c8b))))] (.s (.v .tree c11)) [])
    (h12 : SC cfg.P i_impl_padded [.s (.v .tree c6), .s (.v (.int .i64) (maxI (0 : Int) (IntKind.wrap .i64 (c8a - c10a)))), .s (.v (.int .i64) (maxI (0 : Int) (IntKind.wrap .i64 (c8b - c10b))))] (.s (.v .tree c12)) [])
    (h13 : SC cfg.P i_impl_pair_reduced [.s (.v (.pr .tree .tree) (c11, c12))] (.s (.v (.pr .tree .tree) c13)) [])
    (h14 : SC cfg.P i_impl_pair_fits [.s (.v (.pr .tree .tree) c13)] (.tup [.v (.pr .str .str) c14a, .v .bool c14b]) []) :
    SC cfg.P i_impl_CarrierOf [.s (.v (.pr (.int .i64) (.int .i64)) a0), .s (.v (.pr (.int .i64) (.int .i64)) a1)] (.tup [.v (.pr .str .str) c14a, .v .bool c14b]) [] :=
  SC_of_run cfgOK (its := [.res (.s (.v .bool true)) [] [] [], .res (.s (.v .bool true)) [] [] [], .res (.s (.v (.int .i64) c3)) [] [] [], .res (.s (.v .tree c4)) [] [] [], .res (.s (.v (.int .i64) c5)) [] [] [], .res (.s (.v .tree c6)) [] [] [], .res (.s (.v (.int .i64) c7)) [] [] [], .res (.tup [.v (.int .i64) c8a, .v (.int .i64) c8b]) [] [] [], .res (.s (.v (.int .i64) c9)) [] [] [], .res (.tup [.v (.int .i64) c10a, .v (.int .i64) c10b]) [] [] [], .res (.s (.v .tree c11)) [] [] [], .res (.s (.v .tree c12)) [] [] [], .res (.s (.v (.pr .tree .tree) c13)) [] [] [], .res (.tup [.v (.pr .str .str) c14a, .v .bool c14b]) [] [] []])
    (ps := [SC cfg.P i_impl_isBetween [.s (.v (.pr (.int .i64) (.int .i64)) a0)] (.s (.v .bool true)) [],
      SC cfg.P i_impl_isBetween [.s (.v (.pr (.int .i64) (.int .i64)) a1)] (.s (.v .bool true)) [],
      SC cfg.P i_impl_Fraction_place [.s (.v (.pr (.int .i64) (.int .i64)) a0)] (.s (.v (.int .i64) c3)) [],
      SC cfg.P i_impl_starting [.s (.v (.int .i64) c3), .s (.v .str (⟨#[]⟩ : ByteArray))] (.s (.v .tree c4)) [],
      SC cfg.P i_impl_Fraction_place [.s (.v (.pr (.int .i64) (.int .i64)) a1)] (.s (.v (.int .i64) c5)) [],
      SC cfg.P i_impl_starting [.s (.v (.int .i64) c5), .s (.v .str (⟨#[]⟩ : ByteArray))] (.s (.v .tree c6)) [],
      SC cfg.P i_impl_Fraction_place [.s (.v (.pr (.int .i64) (.int .i64)) a0)] (.s (.v (.int .i64) c7)) [],
      SC cfg.P i_impl_sides [.s (.v .tree c4), .s (.v (.int .i64) c7)] (.tup [.v (.int .i64) c8a, .v (.int .i64) c8b]) [],
      SC cfg.P i_impl_Fraction_place [.s (.v (.pr (.int .i64) (.int .i64)) a1)] (.s (.v (.int .i64) c9)) [],
      SC cfg.P i_impl_sides [.s (.v .tree c6), .s (.v (.int .i64) c9)] (.tup [.v (.int .i64) c10a, .v (.int .i64) c10b]) [],
      SC cfg.P i_impl_padded [.s (.v .tree c4), .s (.v (.int .i64) (maxI (0 : Int) (IntKind.wrap .i64 (c10a - c8a)))), .s (.v (.int .i64) (maxI (0 : Int) (IntKind.wrap .i64 (c10b - c8b))))] (.s (.v .tree c11)) [],
      SC cfg.P i_impl_padded [.s (.v .tree c6), .s (.v (.int .i64) (maxI (0 : Int) (IntKind.wrap .i64 (c8a - c10a)))), .s (.v (.int .i64) (maxI (0 : Int) (IntKind.wrap .i64 (c8b - c10b))))] (.s (.v .tree c12)) [],
      SC cfg.P i_impl_pair_reduced [.s (.v (.pr .tree .tree) (c11, c12))] (.s (.v (.pr .tree .tree) c13)) [],
      SC cfg.P i_impl_pair_fits [.s (.v (.pr .tree .tree) c13)] (.tup [.v (.pr .str .str) c14a, .v .bool c14b]) []]) (by kernel_rfl) ⟨h1, h2, h3, h4, h5, h6, h7, h8, h9, h10, h11, h12, h13, h14, trivial⟩ get_impl_CarrierOf (by decide)

theorem impl_CarrierOf_p2 (a0 : (Int × Int)) (a1 : (Int × Int))
    (h1 : SC cfg.P i_impl_isBetween [.s (.v (.pr (.int .i64) (.int .i64)) a0)] (.s (.v .bool true)) [])
    (h2 : SC cfg.P i_impl_isBetween [.s (.v (.pr (.int .i64) (.int .i64)) a1)] (.s (.v .bool false)) []) :
    SC cfg.P i_impl_CarrierOf [.s (.v (.pr (.int .i64) (.int .i64)) a0), .s (.v (.pr (.int .i64) (.int .i64)) a1)] (.tup [.v (.pr .str .str) ((⟨#[]⟩ : ByteArray), (⟨#[]⟩ : ByteArray)), .v .bool false]) [] :=
  SC_of_run cfgOK (its := [.res (.s (.v .bool true)) [] [] [], .res (.s (.v .bool false)) [] [] []])
    (ps := [SC cfg.P i_impl_isBetween [.s (.v (.pr (.int .i64) (.int .i64)) a0)] (.s (.v .bool true)) [],
      SC cfg.P i_impl_isBetween [.s (.v (.pr (.int .i64) (.int .i64)) a1)] (.s (.v .bool false)) []]) (by kernel_rfl) ⟨h1, h2, trivial⟩ get_impl_CarrierOf (by decide)

theorem impl_CarrierOf_p3 (a0 : (Int × Int)) (a1 : (Int × Int))
    (h1 : SC cfg.P i_impl_isBetween [.s (.v (.pr (.int .i64) (.int .i64)) a0)] (.s (.v .bool false)) []) :
    SC cfg.P i_impl_CarrierOf [.s (.v (.pr (.int .i64) (.int .i64)) a0), .s (.v (.pr (.int .i64) (.int .i64)) a1)] (.tup [.v (.pr .str .str) ((⟨#[]⟩ : ByteArray), (⟨#[]⟩ : ByteArray)), .v .bool false]) [] :=
  SC_of_run cfgOK (its := [.res (.s (.v .bool false)) [] [] []])
    (ps := [SC cfg.P i_impl_isBetween [.s (.v (.pr (.int .i64) (.int .i64)) a0)] (.s (.v .bool false)) []]) (by kernel_rfl) ⟨h1, trivial⟩ get_impl_CarrierOf (by decide)

/-! ### spec_obStart -/


def spec_obStart_L0a (x4 : ByteArray) (xo1 : (Int × Int)) : St := mkSt 23 [(1, .s (.adr 1 none)), (4, .s (.v .str x4))] [(1, .box (.pr (.int .i64) (.int .i64)) xo1 false)]

def spec_obStart_L0X1 (y2 : ByteArray) (y3 : Int) : St := mkSt 23 [(2, .s (.v .str y2)), (3, .s (.v (.int .i64) y3))] []

theorem spec_obStart_L0a_x1 (x4 : ByteArray) (xo1 : (Int × Int)) (dc1 : (List (Int × Int))) (dc2 : Int)
    (h1 : SC cfg.P i_spec_mpStarts [.s (.v .str x4)] (.s (.v (.sl (.pr (.int .i64) (.int .i64))) dc1)) [])
    (h2 : SC cfg.P i_spec_mpLeaf [.s (.v .str x4), .s (.v (.pr (.int .i64) (.int .i64)) xo1)] (.s (.v (.int .i64) dc2)) [])
    (h3 : 0 ≤ dc2)
    (h4 : dc2 < (List.length dc1 : Int))
    (h5 : (((List.getD dc1 (dc2).toNat ((0 : Int), (0 : Int))).1 == xo1.1) && ((List.getD dc1 (dc2).toNat ((0 : Int), (0 : Int))).2 == xo1.2)) = true) :
    LoopSC cfg.P 1 (lb P_spec_obStart 0) (spec_obStart_L0a x4 xo1) (.ret) (spec_obStart_L0X1 x4 dc2) :=
  loop_out cfgOK (f := i_spec_obStart) (its := [.res (.s (.v (.sl (.pr (.int .i64) (.int .i64))) dc1)) [] [] [], .res (.s (.v (.int .i64) dc2)) [] [] [], .bool true])
    (ps := [SC cfg.P i_spec_mpStarts [.s (.v .str x4)] (.s (.v (.sl (.pr (.int .i64) (.int .i64))) dc1)) [],
      SC cfg.P i_spec_mpLeaf [.s (.v .str x4), .s (.v (.pr (.int .i64) (.int .i64)) xo1)] (.s (.v (.int .i64) dc2)) [],
      0 ≤ dc2,
      dc2 < (List.length dc1 : Int),
      (((List.getD dc1 (dc2).toNat ((0 : Int), (0 : Int))).1 == xo1.1) && ((List.getD dc1 (dc2).toNat ((0 : Int), (0 : Int))).2 == xo1.2)) = true]) (by kernel_rfl) ⟨h1, h2, h3, h4, h5, trivial⟩ (fun h => by cases h)

theorem spec_obStart_L0a_i2 (x4 : ByteArray) (xo1 : (Int × Int)) (dc1 : (List (Int × Int))) (dc2 : Int) (dc3 : ByteArray)
    (h1 : SC cfg.P i_spec_mpStarts [.s (.v .str x4)] (.s (.v (.sl (.pr (.int .i64) (.int .i64))) dc1)) [])
    (h2 : SC cfg.P i_spec_mpLeaf [.s (.v .str x4), .s (.v (.pr (.int .i64) (.int .i64)) xo1)] (.s (.v (.int .i64) dc2)) [])
    (h3 : 0 ≤ dc2)
    (h4 : dc2 < (List.length dc1 : Int))
    (h5 : (((List.getD dc1 (dc2).toNat ((0 : Int), (0 : Int))).1 == xo1.1) && ((List.getD dc1 (dc2).toNat ((0 : Int), (0 : Int))).2 == xo1.2)) = false)
    (h6 : SC cfg.P i_spec_trGraft [.s (.v .str x4), .s (.v (.int .i64) dc2), .s (.v .str (⟨#[40, 46, 46, 41]⟩ : ByteArray))] (.s (.v .str dc3)) [])
    {e : AEx} {st : St} (next : LoopSC cfg.P 1 (lb P_spec_obStart 0) (spec_obStart_L0a dc3 xo1) e st) :
    LoopSC cfg.P 1 (lb P_spec_obStart 0) (spec_obStart_L0a x4 xo1) e st :=
  loop_iter cfgOK (f := i_spec_obStart) (its := [.res (.s (.v (.sl (.pr (.int .i64) (.int .i64))) dc1)) [] [] [], .res (.s (.v (.int .i64) dc2)) [] [] [], .bool false, .res (.s (.v .str dc3)) [] [] []])
    (ps := [SC cfg.P i_spec_mpStarts [.s (.v .str x4)] (.s (.v (.sl (.pr (.int .i64) (.int .i64))) dc1)) [],
      SC cfg.P i_spec_mpLeaf [.s (.v .str x4), .s (.v (.pr (.int .i64) (.int .i64)) xo1)] (.s (.v (.int .i64) dc2)) [],
      0 ≤ dc2,
      dc2 < (List.length dc1 : Int),
      (((List.getD dc1 (dc2).toNat ((0 : Int), (0 : Int))).1 == xo1.1) && ((List.getD dc1 (dc2).toNat ((0 : Int), (0 : Int))).2 == xo1.2)) = false,
      SC cfg.P i_spec_trGraft [.s (.v .str x4), .s (.v (.int .i64) dc2), .s (.v .str (⟨#[40, 46, 46, 41]⟩ : ByteArray))] (.s (.v .str dc3)) []]) (st1 := spec_obStart_L0a dc3 xo1) (by kernel_rfl) ⟨h1, h2, h3, h4, h5, h6, trivial⟩ next

theorem spec_obStart_p1 (a0 : (Int × Int)) (k1y2 : ByteArray) (k1y3 : Int)
    (h1 : LoopSC cfg.P 1 (lb P_spec_obStart 0) (spec_obStart_L0a (⟨#[46]⟩ : ByteArray) a0) (.ret) (spec_obStart_L0X1 k1y2 k1y3)) :
    SC cfg.P i_spec_obStart [.s (.v (.pr (.int .i64) (.int .i64)) a0)] (.tup [.v .str k1y2, .v (.int .i64) k1y3]) [] :=
  SC_of_run cfgOK (its := [.loop (fun _ => (.ret, spec_obStart_L0X1 k1y2 k1y3))])
    (ps := [LoopSC cfg.P 1 (lb P_spec_obStart 0) (spec_obStart_L0a (⟨#[46]⟩ : ByteArray) a0) (.ret) (spec_obStart_L0X1 k1y2 k1y3)]) (by kernel_rfl) ⟨h1, trivial⟩ get_spec_obStart (by decide)

/-! ### spec_trGraft -/


def spec_trGraft_L0a (x0 : ByteArray) (x1 : Int) (x2 : ByteArray) (x7 : Int) (x8 : Int) : St := mkSt 35 [(0, .s (.v .str x0)), (1, .s (.v (.int .i64) x1)), (2, .s (.v .str x2)), (7, .s (.v (.int .i64) x7)), (8, .s (.v (.int .i64) x8))] []

def spec_trGraft_L0X1 (y6 : ByteArray) : St := mkSt 35 [(6, .s (.v .str y6))] []

def spec_trGraft_L0X2 (y0 : ByteArray) (y1 : Int) (y2 : ByteArray) (y7 : Int) (y8 : Int) (y12 : Bool) : St := mkSt 35 [(0, .s (.v .str y0)), (1, .s (.v (.int .i64) y1)), (2, .s (.v .str y2)), (7, .s (.v (.int .i64) y7)), (8, .s (.v (.int .i64) y8)), (12, .s (.v .bool y12))] []

theorem spec_trGraft_L0a_x1 (x0 : ByteArray) (x1 : Int) (x2 : ByteArray) (x7 : Int) (x8 : Int)
    (h1 : x8 < ((x0).size : Int))
    (h2 : 0 ≤ x8)
    (h3 : (bt x0 x8) = (46 : Int))
    (h4 : (IntKind.wrap .i64 (x7 + (1 : Int))) = x1)
    (h5 : x8 ≤ ((x0).size : Int))
    (h6 : ((ByteArray.extract x0 ((0 : Int)).toNat (x8).toNat)).size + (x2).size ≤ 2 ^ 62)
    (h7 : 0 ≤ (IntKind.wrap .i64 (x8 + (1 : Int))))
    (h8 : (IntKind.wrap .i64 (x8 + (1 : Int))) ≤ ((x0).size : Int))
    (h9 : (((ByteArray.extract x0 ((0 : Int)).toNat (x8).toNat) ++ x2)).size + ((ByteArray.extract x0 ((IntKind.wrap .i64 (x8 + (1 : Int)))).toNat (((x0).size : Int)).toNat)).size ≤ 2 ^ 62) :
    LoopSC cfg.P 3 (lb P_spec_trGraft 0) (spec_trGraft_L0a x0 x1 x2 x7 x8) (.ret) (spec_trGraft_L0X1 (((ByteArray.extract x0 ((0 : Int)).toNat (x8).toNat) ++ x2) ++ (ByteArray.extract x0 ((IntKind.wrap .i64 (x8 + (1 : Int)))).toNat (((x0).size : Int)).toNat))) :=
  loop_out cfgOK (f := i_spec_trGraft) (its := [.bool true, .bool true, .bool true])
    (ps := [decide (x8 < ((x0).size : Int)) = true,
      0 ≤ x8,
      x8 < ((x0).size : Int),
      ((bt x0 x8) == (46 : Int)) = true,
      ((IntKind.wrap .i64 (x7 + (1 : Int))) == x1) = true,
      0 ≤ x8,
      x8 ≤ ((x0).size : Int),
      ((ByteArray.extract x0 ((0 : Int)).toNat (x8).toNat)).size + (x2).size ≤ 2 ^ 62,
      0 ≤ (IntKind.wrap .i64 (x8 + (1 : Int))),
      (IntKind.wrap .i64 (x8 + (1 : Int))) ≤ ((x0).size : Int),
      (((ByteArray.extract x0 ((0 : Int)).toNat (x8).toNat) ++ x2)).size + ((ByteArray.extract x0 ((IntKind.wrap .i64 (x8 + (1 : Int)))).toNat (((x0).size : Int)).toNat)).size ≤ 2 ^ 62]) (by kernel_rfl) ⟨(decide_eq_true h1), h2, h1, (beq_t h3), (beq_t h4), h2, h5, h6, h7, h8, h9, trivial⟩ (fun h => by cases h)

theorem spec_trGraft_L0a_i2 (x0 : ByteArray) (x1 : Int) (x2 : ByteArray) (x7 : Int) (x8 : Int)
    (h1 : x8 < ((x0).size : Int))
    (h2 : 0 ≤ x8)
    (h3 : (bt x0 x8) = (46 : Int))
    (h4 : (IntKind.wrap .i64 (x7 + (1 : Int))) ≠ x1)
    {e : AEx} {st : St} (next : LoopSC cfg.P 3 (lb P_spec_trGraft 0) (spec_trGraft_L0a x0 x1 x2 (IntKind.wrap .i64 (x7 + (1 : Int))) (IntKind.wrap .i64 (x8 + (1 : Int)))) e st) :
    LoopSC cfg.P 3 (lb P_spec_trGraft 0) (spec_trGraft_L0a x0 x1 x2 x7 x8) e st :=
  loop_iter cfgOK (f := i_spec_trGraft) (its := [.bool true, .bool true, .bool false])
    (ps := [decide (x8 < ((x0).size : Int)) = true,
      0 ≤ x8,
      x8 < ((x0).size : Int),
      ((bt x0 x8) == (46 : Int)) = true,
      ((IntKind.wrap .i64 (x7 + (1 : Int))) == x1) = false]) (st1 := spec_trGraft_L0a x0 x1 x2 (IntKind.wrap .i64 (x7 + (1 : Int))) (IntKind.wrap .i64 (x8 + (1 : Int)))) (by kernel_rfl) ⟨(decide_eq_true h1), h2, h1, (beq_t h3), (beq_f h4), trivial⟩ next

theorem spec_trGraft_L0a_x3 (x0 : ByteArray) (x1 : Int) (x2 : ByteArray) (x7 : Int) (x8 : Int)
    (h1 : x8 < ((x0).size : Int))
    (h2 : 0 ≤ x8)
    (h3 : (bt x0 x8) ≠ (46 : Int))
    (h4 : x7 = x1)
    (h5 : x8 ≤ ((x0).size : Int))
    (h6 : ((ByteArray.extract x0 ((0 : Int)).toNat (x8).toNat)).size + (x2).size ≤ 2 ^ 62)
    (h7 : 0 ≤ (IntKind.wrap .i64 (x8 + (1 : Int))))
    (h8 : (IntKind.wrap .i64 (x8 + (1 : Int))) ≤ ((x0).size : Int))
    (h9 : (((ByteArray.extract x0 ((0 : Int)).toNat (x8).toNat) ++ x2)).size + ((ByteArray.extract x0 ((IntKind.wrap .i64 (x8 + (1 : Int)))).toNat (((x0).size : Int)).toNat)).size ≤ 2 ^ 62) :
    LoopSC cfg.P 3 (lb P_spec_trGraft 0) (spec_trGraft_L0a x0 x1 x2 x7 x8) (.ret) (spec_trGraft_L0X1 (((ByteArray.extract x0 ((0 : Int)).toNat (x8).toNat) ++ x2) ++ (ByteArray.extract x0 ((IntKind.wrap .i64 (x8 + (1 : Int)))).toNat (((x0).size : Int)).toNat))) :=
  loop_out cfgOK (f := i_spec_trGraft) (its := [.bool true, .bool false, .bool true])
    (ps := [decide (x8 < ((x0).size : Int)) = true,
      0 ≤ x8,
      x8 < ((x0).size : Int),
      ((bt x0 x8) == (46 : Int)) = false,
      (x7 == x1) = true,
      0 ≤ x8,
      x8 ≤ ((x0).size : Int),
      ((ByteArray.extract x0 ((0 : Int)).toNat (x8).toNat)).size + (x2).size ≤ 2 ^ 62,
      0 ≤ (IntKind.wrap .i64 (x8 + (1 : Int))),
      (IntKind.wrap .i64 (x8 + (1 : Int))) ≤ ((x0).size : Int),
      (((ByteArray.extract x0 ((0 : Int)).toNat (x8).toNat) ++ x2)).size + ((ByteArray.extract x0 ((IntKind.wrap .i64 (x8 + (1 : Int)))).toNat (((x0).size : Int)).toNat)).size ≤ 2 ^ 62]) (by kernel_rfl) ⟨(decide_eq_true h1), h2, h1, (beq_f h3), (beq_t h4), h2, h5, h6, h7, h8, h9, trivial⟩ (fun h => by cases h)

theorem spec_trGraft_L0a_i4 (x0 : ByteArray) (x1 : Int) (x2 : ByteArray) (x7 : Int) (x8 : Int)
    (h1 : x8 < ((x0).size : Int))
    (h2 : 0 ≤ x8)
    (h3 : (bt x0 x8) ≠ (46 : Int))
    (h4 : x7 ≠ x1)
    {e : AEx} {st : St} (next : LoopSC cfg.P 3 (lb P_spec_trGraft 0) (spec_trGraft_L0a x0 x1 x2 x7 (IntKind.wrap .i64 (x8 + (1 : Int)))) e st) :
    LoopSC cfg.P 3 (lb P_spec_trGraft 0) (spec_trGraft_L0a x0 x1 x2 x7 x8) e st :=
  loop_iter cfgOK (f := i_spec_trGraft) (its := [.bool true, .bool false, .bool false])
    (ps := [decide (x8 < ((x0).size : Int)) = true,
      0 ≤ x8,
      x8 < ((x0).size : Int),
      ((bt x0 x8) == (46 : Int)) = false,
      (x7 == x1) = false]) (st1 := spec_trGraft_L0a x0 x1 x2 x7 (IntKind.wrap .i64 (x8 + (1 : Int)))) (by kernel_rfl) ⟨(decide_eq_true h1), h2, h1, (beq_f h3), (beq_f h4), trivial⟩ next

theorem spec_trGraft_L0a_x5 (x0 : ByteArray) (x1 : Int) (x2 : ByteArray) (x7 : Int) (x8 : Int)
    (h1 : ¬ (x8 < ((x0).size : Int))) :
    LoopSC cfg.P 3 (lb P_spec_trGraft 0) (spec_trGraft_L0a x0 x1 x2 x7 x8) (.exit 0) (spec_trGraft_L0X2 x0 x1 x2 x7 x8 false) :=
  loop_out cfgOK (f := i_spec_trGraft) (its := [.bool false])
    (ps := [decide (x8 < ((x0).size : Int)) = false]) (by kernel_rfl) ⟨(decide_eq_false h1), trivial⟩ (fun h => by cases h)

theorem spec_trGraft_p1 (a0 : ByteArray) (a1 : Int) (a2 : ByteArray) (k1y6 : ByteArray)
    (h1 : LoopSC cfg.P 3 (lb P_spec_trGraft 0) (spec_trGraft_L0a a0 a1 a2 (-1 : Int) (0 : Int)) (.ret) (spec_trGraft_L0X1 k1y6)) :
    SC cfg.P i_spec_trGraft [.s (.v .str a0), .s (.v (.int .i64) a1), .s (.v .str a2)] (.s (.v .str k1y6)) [] :=
  SC_of_run cfgOK (its := [.loop (fun _ => (.ret, spec_trGraft_L0X1 k1y6))])
    (ps := [LoopSC cfg.P 3 (lb P_spec_trGraft 0) (spec_trGraft_L0a a0 a1 a2 (-1 : Int) (0 : Int)) (.ret) (spec_trGraft_L0X1 k1y6)]) (by kernel_rfl) ⟨h1, trivial⟩ get_spec_trGraft (by decide)

theorem spec_trGraft_p2 (a0 : ByteArray) (a1 : Int) (a2 : ByteArray) (k1y0 : ByteArray) (k1y1 : Int) (k1y2 : ByteArray) (k1y7 : Int) (k1y8 : Int) (k1y12 : Bool)
    (h1 : LoopSC cfg.P 3 (lb P_spec_trGraft 0) (spec_trGraft_L0a a0 a1 a2 (-1 : Int) (0 : Int)) (.exit 0) (spec_trGraft_L0X2 k1y0 k1y1 k1y2 k1y7 k1y8 k1y12)) :
    SC cfg.P i_spec_trGraft [.s (.v .str a0), .s (.v (.int .i64) a1), .s (.v .str a2)] (.s (.v .str k1y0)) [] :=
  SC_of_run cfgOK (its := [.loop (fun _ => (.exit 0, spec_trGraft_L0X2 k1y0 k1y1 k1y2 k1y7 k1y8 k1y12))])
    (ps := [LoopSC cfg.P 3 (lb P_spec_trGraft 0) (spec_trGraft_L0a a0 a1 a2 (-1 : Int) (0 : Int)) (.exit 0) (spec_trGraft_L0X2 k1y0 k1y1 k1y2 k1y7 k1y8 k1y12)]) (by kernel_rfl) ⟨h1, trivial⟩ get_spec_trGraft (by decide)

/-! ### spec_trRight -/


def spec_trRight_L0a (x0 : Int) (x3 : ByteArray) : St := mkSt 11 [(0, .s (.v (.int .i64) x0)), (3, .s (.v .str x3))] []

def spec_trRight_L0X1 (y0 : Int) (y3 : ByteArray) (y5 : Bool) : St := mkSt 11 [(0, .s (.v (.int .i64) y0)), (3, .s (.v .str y3)), (5, .s (.v .bool y5))] []

theorem spec_trRight_L0a_i1 (x0 : Int) (x3 : ByteArray) (dc1 : ByteArray)
    (h1 : x0 > (0 : Int))
    (h2 : SC cfg.P i_spec_trOf [.s (.v .str (⟨#[46]⟩ : ByteArray)), .s (.v .str x3)] (.s (.v .str dc1)) [])
    {e : AEx} {st : St} (next : LoopSC cfg.P 1 (lb P_spec_trRight 0) (spec_trRight_L0a (IntKind.wrap .i64 (x0 - (1 : Int))) dc1) e st) :
    LoopSC cfg.P 1 (lb P_spec_trRight 0) (spec_trRight_L0a x0 x3) e st :=
  loop_iter cfgOK (f := i_spec_trRight) (its := [.bool true, .res (.s (.v .str dc1)) [] [] []])
    (ps := [decide (x0 > (0 : Int)) = true,
      SC cfg.P i_spec_trOf [.s (.v .str (⟨#[46]⟩ : ByteArray)), .s (.v .str x3)] (.s (.v .str dc1)) []]) (st1 := spec_trRight_L0a (IntKind.wrap .i64 (x0 - (1 : Int))) dc1) (by kernel_rfl) ⟨(decide_eq_true h1), h2, trivial⟩ next

theorem spec_trRight_L0a_x2 (x0 : Int) (x3 : ByteArray)
    (h1 : ¬ (x0 > (0 : Int))) :
    LoopSC cfg.P 1 (lb P_spec_trRight 0) (spec_trRight_L0a x0 x3) (.exit 0) (spec_trRight_L0X1 x0 x3 false) :=
  loop_out cfgOK (f := i_spec_trRight) (its := [.bool false])
    (ps := [decide (x0 > (0 : Int)) = false]) (by kernel_rfl) ⟨(decide_eq_false h1), trivial⟩ (fun h => by cases h)

theorem spec_trRight_p1 (a0 : Int) (k1y0 : Int) (k1y3 : ByteArray) (k1y5 : Bool)
    (h1 : LoopSC cfg.P 1 (lb P_spec_trRight 0) (spec_trRight_L0a a0 (⟨#[46]⟩ : ByteArray)) (.exit 0) (spec_trRight_L0X1 k1y0 k1y3 k1y5)) :
    SC cfg.P i_spec_trRight [.s (.v (.int .i64) a0)] (.s (.v .str k1y3)) [] :=
  SC_of_run cfgOK (its := [.loop (fun _ => (.exit 0, spec_trRight_L0X1 k1y0 k1y3 k1y5))])
    (ps := [LoopSC cfg.P 1 (lb P_spec_trRight 0) (spec_trRight_L0a a0 (⟨#[46]⟩ : ByteArray)) (.exit 0) (spec_trRight_L0X1 k1y0 k1y3 k1y5)]) (by kernel_rfl) ⟨h1, trivial⟩ get_spec_trRight (by decide)

/-! ### spec_l1Most -/


theorem spec_l1Most_p1 (a0 : Int) (a1 : Int)
    (h1 : a0 > a1) :
    SC cfg.P i_spec_l1Most [.s (.v (.int .i64) a0), .s (.v (.int .i64) a1)] (.s (.v (.int .i64) a0)) [] :=
  SC_of_run cfgOK (its := [.bool true])
    (ps := [decide (a0 > a1) = true]) (by kernel_rfl) ⟨(decide_eq_true h1), trivial⟩ get_spec_l1Most (by decide)

theorem spec_l1Most_p2 (a0 : Int) (a1 : Int)
    (h1 : ¬ (a0 > a1)) :
    SC cfg.P i_spec_l1Most [.s (.v (.int .i64) a0), .s (.v (.int .i64) a1)] (.s (.v (.int .i64) a1)) [] :=
  SC_of_run cfgOK (its := [.bool false])
    (ps := [decide (a0 > a1) = false]) (by kernel_rfl) ⟨(decide_eq_false h1), trivial⟩ get_spec_l1Most (by decide)

/-! ### impl_starting -/


theorem impl_starting_p1 (a0 : Int) (a1 : ByteArray) (c1 : Int)
    (h1 : SC cfg.P i_impl_placeOf [.s (.v .str a1)] (.s (.v (.int .i64) c1)) [])
    (h2 : a0 ≤ c1) :
    SC cfg.P i_impl_starting [.s (.v (.int .i64) a0), .s (.v .str a1)] (.s (.v .tree Tr.leaf)) [] :=
  SC_of_run cfgOK (its := [.res (.s (.v (.int .i64) c1)) [] [] [], .bool true])
    (ps := [SC cfg.P i_impl_placeOf [.s (.v .str a1)] (.s (.v (.int .i64) c1)) [],
      decide (a0 ≤ c1) = true]) (by kernel_rfl) ⟨h1, (decide_eq_true h2), trivial⟩ get_impl_starting (by decide)

theorem impl_starting_p2 (a0 : Int) (a1 : ByteArray) (c1 : Int)
    (h1 : SC cfg.P i_impl_placeOf [.s (.v .str a1)] (.s (.v (.int .i64) c1)) [])
    (h2 : ¬ (a0 ≤ c1))
    (h3 : 0 ≤ ((a1).size : Int))
    (h4 : a0 ≥ (IntKind.wrap .i64 (c1 + (Int.fdiv (1099511627776 : Int) (2 ^ (min (((a1).size : Int)).toNat (IntKind.bits .i64))))))) :
    SC cfg.P i_impl_starting [.s (.v (.int .i64) a0), .s (.v .str a1)] (.s (.v .tree Tr.leaf)) [] :=
  SC_of_run cfgOK (its := [.res (.s (.v (.int .i64) c1)) [] [] [], .bool false, .bool true])
    (ps := [SC cfg.P i_impl_placeOf [.s (.v .str a1)] (.s (.v (.int .i64) c1)) [],
      decide (a0 ≤ c1) = false,
      0 ≤ ((a1).size : Int),
      decide (a0 ≥ (IntKind.wrap .i64 (c1 + (Int.fdiv (1099511627776 : Int) (2 ^ (min (((a1).size : Int)).toNat (IntKind.bits .i64))))))) = true]) (by kernel_rfl) ⟨h1, (decide_eq_false h2), h3, (decide_eq_true h4), trivial⟩ get_impl_starting (by decide)

theorem impl_starting_p3 (a0 : Int) (a1 : ByteArray) (c1 : Int) (c2 : Tr) (c3 : Tr)
    (h1 : SC cfg.P i_impl_placeOf [.s (.v .str a1)] (.s (.v (.int .i64) c1)) [])
    (h2 : ¬ (a0 ≤ c1))
    (h3 : 0 ≤ ((a1).size : Int))
    (h4 : ¬ (a0 ≥ (IntKind.wrap .i64 (c1 + (Int.fdiv (1099511627776 : Int) (2 ^ (min (((a1).size : Int)).toNat (IntKind.bits .i64))))))))
    (h5 : (a1).size + ((⟨#[48]⟩ : ByteArray)).size ≤ 2 ^ 62)
    (h6 : SC cfg.P i_impl_starting [.s (.v (.int .i64) a0), .s (.v .str (a1 ++ (⟨#[48]⟩ : ByteArray)))] (.s (.v .tree c2)) [])
    (h7 : (a1).size + ((⟨#[49]⟩ : ByteArray)).size ≤ 2 ^ 62)
    (h8 : SC cfg.P i_impl_starting [.s (.v (.int .i64) a0), .s (.v .str (a1 ++ (⟨#[49]⟩ : ByteArray)))] (.s (.v .tree c3)) []) :
    SC cfg.P i_impl_starting [.s (.v (.int .i64) a0), .s (.v .str a1)] (.s (.v .tree (Tr.node c2 c3))) [] :=
  SC_of_run cfgOK (its := [.res (.s (.v (.int .i64) c1)) [] [] [], .bool false, .bool false, .res (.s (.v .tree c2)) [] [] [], .res (.s (.v .tree c3)) [] [] []])
    (ps := [SC cfg.P i_impl_placeOf [.s (.v .str a1)] (.s (.v (.int .i64) c1)) [],
      decide (a0 ≤ c1) = false,
      0 ≤ ((a1).size : Int),
      decide (a0 ≥ (IntKind.wrap .i64 (c1 + (Int.fdiv (1099511627776 : Int) (2 ^ (min (((a1).size : Int)).toNat (IntKind.bits .i64))))))) = false,
      (a1).size + ((⟨#[48]⟩ : ByteArray)).size ≤ 2 ^ 62,
      SC cfg.P i_impl_starting [.s (.v (.int .i64) a0), .s (.v .str (a1 ++ (⟨#[48]⟩ : ByteArray)))] (.s (.v .tree c2)) [],
      (a1).size + ((⟨#[49]⟩ : ByteArray)).size ≤ 2 ^ 62,
      SC cfg.P i_impl_starting [.s (.v (.int .i64) a0), .s (.v .str (a1 ++ (⟨#[49]⟩ : ByteArray)))] (.s (.v .tree c3)) []]) (by kernel_rfl) ⟨h1, (decide_eq_false h2), h3, (decide_eq_false h4), h5, h6, h7, h8, trivial⟩ get_impl_starting (by decide)

/-! ### impl_sides -/


def impl_sides_L0a (x1 : Int) (x6 : Int) (x7 : Int) (x12 : (List ByteArray)) (x13 : Int) (x14 : Int) : St := mkSt 35 [(1, .s (.v (.int .i64) x1)), (6, .s (.v (.int .i64) x6)), (7, .s (.v (.int .i64) x7)), (12, .s (.v (.sl .str) x12)), (13, .s (.v (.int .i64) x13)), (14, .s (.v (.int .i64) x14))] []

def impl_sides_L0X1 (y1 : Int) (y6 : Int) (y7 : Int) (y12 : (List ByteArray)) (y13 : Int) (y14 : Int) (y15 : Bool) : St := mkSt 35 [(1, .s (.v (.int .i64) y1)), (6, .s (.v (.int .i64) y6)), (7, .s (.v (.int .i64) y7)), (12, .s (.v (.sl .str) y12)), (13, .s (.v (.int .i64) y13)), (14, .s (.v (.int .i64) y14)), (15, .s (.v .bool y15))] []

theorem impl_sides_L0a_i1 (x1 : Int) (x6 : Int) (x7 : Int) (x12 : (List ByteArray)) (x13 : Int) (x14 : Int) (dc1 : Int)
    (h1 : x14 < x13)
    (h2 : 0 ≤ x14)
    (h3 : x14 < (List.length x12 : Int))
    (h4 : SC cfg.P i_impl_placeOf [.s (.v .str (List.getD x12 (x14).toNat (⟨#[]⟩ : ByteArray)))] (.s (.v (.int .i64) dc1)) [])
    (h5 : dc1 < x1)
    {e : AEx} {st : St} (next : LoopSC cfg.P 2 (lb P_impl_sides 0) (impl_sides_L0a x1 (IntKind.wrap .i64 (x6 + (1 : Int))) x7 x12 x13 (IntKind.wrap .i64 (x14 + (1 : Int)))) e st) :
    LoopSC cfg.P 2 (lb P_impl_sides 0) (impl_sides_L0a x1 x6 x7 x12 x13 x14) e st :=
  loop_iter cfgOK (f := i_impl_sides) (its := [.bool true, .res (.s (.v (.int .i64) dc1)) [] [] [], .bool true])
    (ps := [decide (x14 < x13) = true,
      0 ≤ x14,
      x14 < (List.length x12 : Int),
      SC cfg.P i_impl_placeOf [.s (.v .str (List.getD x12 (x14).toNat (⟨#[]⟩ : ByteArray)))] (.s (.v (.int .i64) dc1)) [],
      decide (dc1 < x1) = true]) (st1 := impl_sides_L0a x1 (IntKind.wrap .i64 (x6 + (1 : Int))) x7 x12 x13 (IntKind.wrap .i64 (x14 + (1 : Int)))) (by kernel_rfl) ⟨(decide_eq_true h1), h2, h3, h4, (decide_eq_true h5), trivial⟩ next

theorem impl_sides_L0a_i2 (x1 : Int) (x6 : Int) (x7 : Int) (x12 : (List ByteArray)) (x13 : Int) (x14 : Int) (dc1 : Int)
    (h1 : x14 < x13)
    (h2 : 0 ≤ x14)
    (h3 : x14 < (List.length x12 : Int))
    (h4 : SC cfg.P i_impl_placeOf [.s (.v .str (List.getD x12 (x14).toNat (⟨#[]⟩ : ByteArray)))] (.s (.v (.int .i64) dc1)) [])
    (h5 : ¬ (dc1 < x1))
    (h6 : dc1 > x1)
    {e : AEx} {st : St} (next : LoopSC cfg.P 2 (lb P_impl_sides 0) (impl_sides_L0a x1 x6 (IntKind.wrap .i64 (x7 + (1 : Int))) x12 x13 (IntKind.wrap .i64 (x14 + (1 : Int)))) e st) :
    LoopSC cfg.P 2 (lb P_impl_sides 0) (impl_sides_L0a x1 x6 x7 x12 x13 x14) e st :=
  loop_iter cfgOK (f := i_impl_sides) (its := [.bool true, .res (.s (.v (.int .i64) dc1)) [] [] [], .bool false, .bool true])
    (ps := [decide (x14 < x13) = true,
      0 ≤ x14,
      x14 < (List.length x12 : Int),
      SC cfg.P i_impl_placeOf [.s (.v .str (List.getD x12 (x14).toNat (⟨#[]⟩ : ByteArray)))] (.s (.v (.int .i64) dc1)) [],
      decide (dc1 < x1) = false,
      decide (dc1 > x1) = true]) (st1 := impl_sides_L0a x1 x6 (IntKind.wrap .i64 (x7 + (1 : Int))) x12 x13 (IntKind.wrap .i64 (x14 + (1 : Int)))) (by kernel_rfl) ⟨(decide_eq_true h1), h2, h3, h4, (decide_eq_false h5), (decide_eq_true h6), trivial⟩ next

theorem impl_sides_L0a_i3 (x1 : Int) (x6 : Int) (x7 : Int) (x12 : (List ByteArray)) (x13 : Int) (x14 : Int) (dc1 : Int)
    (h1 : x14 < x13)
    (h2 : 0 ≤ x14)
    (h3 : x14 < (List.length x12 : Int))
    (h4 : SC cfg.P i_impl_placeOf [.s (.v .str (List.getD x12 (x14).toNat (⟨#[]⟩ : ByteArray)))] (.s (.v (.int .i64) dc1)) [])
    (h5 : ¬ (dc1 < x1))
    (h6 : ¬ (dc1 > x1))
    {e : AEx} {st : St} (next : LoopSC cfg.P 2 (lb P_impl_sides 0) (impl_sides_L0a x1 x6 x7 x12 x13 (IntKind.wrap .i64 (x14 + (1 : Int)))) e st) :
    LoopSC cfg.P 2 (lb P_impl_sides 0) (impl_sides_L0a x1 x6 x7 x12 x13 x14) e st :=
  loop_iter cfgOK (f := i_impl_sides) (its := [.bool true, .res (.s (.v (.int .i64) dc1)) [] [] [], .bool false, .bool false])
    (ps := [decide (x14 < x13) = true,
      0 ≤ x14,
      x14 < (List.length x12 : Int),
      SC cfg.P i_impl_placeOf [.s (.v .str (List.getD x12 (x14).toNat (⟨#[]⟩ : ByteArray)))] (.s (.v (.int .i64) dc1)) [],
      decide (dc1 < x1) = false,
      decide (dc1 > x1) = false]) (st1 := impl_sides_L0a x1 x6 x7 x12 x13 (IntKind.wrap .i64 (x14 + (1 : Int)))) (by kernel_rfl) ⟨(decide_eq_true h1), h2, h3, h4, (decide_eq_false h5), (decide_eq_false h6), trivial⟩ next

theorem impl_sides_L0a_x4 (x1 : Int) (x6 : Int) (x7 : Int) (x12 : (List ByteArray)) (x13 : Int) (x14 : Int)
    (h1 : ¬ (x14 < x13)) :
    LoopSC cfg.P 2 (lb P_impl_sides 0) (impl_sides_L0a x1 x6 x7 x12 x13 x14) (.exit 0) (impl_sides_L0X1 x1 x6 x7 x12 x13 x14 false) :=
  loop_out cfgOK (f := i_impl_sides) (its := [.bool false])
    (ps := [decide (x14 < x13) = false]) (by kernel_rfl) ⟨(decide_eq_false h1), trivial⟩ (fun h => by cases h)

theorem impl_sides_p1 (a0 : Tr) (a1 : Int) (c1 : (List ByteArray)) (k1y1 : Int) (k1y6 : Int) (k1y7 : Int) (k1y12 : (List ByteArray)) (k1y13 : Int) (k1y14 : Int) (k1y15 : Bool)
    (h1 : SC cfg.P i_impl_node_addresses [.s (.v .tree a0), .s (.v .str (⟨#[]⟩ : ByteArray))] (.s (.v (.sl .str) c1)) [])
    (h2 : LoopSC cfg.P 2 (lb P_impl_sides 0) (impl_sides_L0a a1 (0 : Int) (0 : Int) c1 ((List.length c1 : Nat) : Int) (0 : Int)) (.exit 0) (impl_sides_L0X1 k1y1 k1y6 k1y7 k1y12 k1y13 k1y14 k1y15)) :
    SC cfg.P i_impl_sides [.s (.v .tree a0), .s (.v (.int .i64) a1)] (.tup [.v (.int .i64) k1y6, .v (.int .i64) k1y7]) [] :=
  SC_of_run cfgOK (its := [.res (.s (.v (.sl .str) c1)) [] [] [], .loop (fun _ => (.exit 0, impl_sides_L0X1 k1y1 k1y6 k1y7 k1y12 k1y13 k1y14 k1y15))])
    (ps := [SC cfg.P i_impl_node_addresses [.s (.v .tree a0), .s (.v .str (⟨#[]⟩ : ByteArray))] (.s (.v (.sl .str) c1)) [],
      LoopSC cfg.P 2 (lb P_impl_sides 0) (impl_sides_L0a a1 (0 : Int) (0 : Int) c1 ((List.length c1 : Nat) : Int) (0 : Int)) (.exit 0) (impl_sides_L0X1 k1y1 k1y6 k1y7 k1y12 k1y13 k1y14 k1y15)]) (by kernel_rfl) ⟨h1, h2, trivial⟩ get_impl_sides (by decide)

/-! ### impl_padded -/


theorem impl_padded_p1 (a0 : Tr) (a1 : Int) (a2 : Int) (c1 : Int) (c2 : Tr)
    (h1 : SC cfg.P i_impl_node_leaves [.s (.v .tree a0)] (.s (.v (.int .i64) c1)) [])
    (h2 : SC cfg.P i_impl_node_grown [.s (.v .tree a0), .s (.v (.int .i64) (0 : Int)), .fn i_impl_padded_k1 [] [.fadr (.int .i64) a1, .fadr (.int .i64) c1, .fadr (.int .i64) a2]] (.s (.v .tree c2)) []) :
    SC cfg.P i_impl_padded [.s (.v .tree a0), .s (.v (.int .i64) a1), .s (.v (.int .i64) a2)] (.s (.v .tree c2)) [] :=
  SC_of_run cfgOK (its := [.res (.s (.v (.int .i64) c1)) [] [] [], .res (.s (.v .tree c2)) [] [] []])
    (ps := [SC cfg.P i_impl_node_leaves [.s (.v .tree a0)] (.s (.v (.int .i64) c1)) [],
      SC cfg.P i_impl_node_grown [.s (.v .tree a0), .s (.v (.int .i64) (0 : Int)), .fn i_impl_padded_k1 [] [.fadr (.int .i64) a1, .fadr (.int .i64) c1, .fadr (.int .i64) a2]] (.s (.v .tree c2)) []]) (by kernel_rfl) ⟨h1, h2, trivial⟩ get_impl_padded (by decide)

/-! ### impl_node_grown -/


theorem impl_node_grown_p1 (a1 : Int) (a2F : FuncId) (a2g : Int) (a2h : Int) (a2i : Int) (c1 : Tr)
    (h1 : SC cfg.P a2F [.s (.v (.int .i64) a1), .s (.fadr (.int .i64) a2g), .s (.fadr (.int .i64) a2h), .s (.fadr (.int .i64) a2i)] (.s (.v .tree c1)) []) :
    SC cfg.P i_impl_node_grown [.s (.v .tree Tr.leaf), .s (.v (.int .i64) a1), .fn a2F [] [.fadr (.int .i64) a2g, .fadr (.int .i64) a2h, .fadr (.int .i64) a2i]] (.s (.v .tree c1)) [] :=
  SC_of_run cfgOK (its := [.bool true, .res (.s (.v .tree c1)) [] [] []])
    (ps := [Tr.leaf.isLeaf = true,
      SC cfg.P a2F [.s (.v (.int .i64) a1), .s (.fadr (.int .i64) a2g), .s (.fadr (.int .i64) a2h), .s (.fadr (.int .i64) a2i)] (.s (.v .tree c1)) []]) (by kernel_rfl) ⟨rfl, h1, trivial⟩ get_impl_node_grown (by decide)

theorem impl_node_grown_p2 (a0l : Tr) (a0r : Tr) (a1 : Int) (a2F : FuncId) (a2g : Int) (a2h : Int) (a2i : Int) (c1 : Tr) (c2 : Int) (c3 : Tr)
    (h1 : SC cfg.P i_impl_node_grown [.s (.v .tree a0l), .s (.v (.int .i64) a1), .fn a2F [] [.fadr (.int .i64) a2g, .fadr (.int .i64) a2h, .fadr (.int .i64) a2i]] (.s (.v .tree c1)) [])
    (h2 : SC cfg.P i_impl_node_leaves [.s (.v .tree a0l)] (.s (.v (.int .i64) c2)) [])
    (h3 : SC cfg.P i_impl_node_grown [.s (.v .tree a0r), .s (.v (.int .i64) (IntKind.wrap .i64 (a1 + c2))), .fn a2F [] [.fadr (.int .i64) a2g, .fadr (.int .i64) a2h, .fadr (.int .i64) a2i]] (.s (.v .tree c3)) []) :
    SC cfg.P i_impl_node_grown [.s (.v .tree (Tr.node a0l a0r)), .s (.v (.int .i64) a1), .fn a2F [] [.fadr (.int .i64) a2g, .fadr (.int .i64) a2h, .fadr (.int .i64) a2i]] (.s (.v .tree (Tr.node c1 c3))) [] :=
  SC_of_run cfgOK (its := [.bool false, .res (.s (.v .tree c1)) [] [] [], .res (.s (.v (.int .i64) c2)) [] [] [], .res (.s (.v .tree c3)) [] [] []])
    (ps := [(Tr.node a0l a0r).isLeaf = false,
      SC cfg.P i_impl_node_grown [.s (.v .tree a0l), .s (.v (.int .i64) a1), .fn a2F [] [.fadr (.int .i64) a2g, .fadr (.int .i64) a2h, .fadr (.int .i64) a2i]] (.s (.v .tree c1)) [],
      SC cfg.P i_impl_node_leaves [.s (.v .tree a0l)] (.s (.v (.int .i64) c2)) [],
      SC cfg.P i_impl_node_grown [.s (.v .tree a0r), .s (.v (.int .i64) (IntKind.wrap .i64 (a1 + c2))), .fn a2F [] [.fadr (.int .i64) a2g, .fadr (.int .i64) a2h, .fadr (.int .i64) a2i]] (.s (.v .tree c3)) []]) (by kernel_rfl) ⟨rfl, h1, h2, h3, trivial⟩ get_impl_node_grown (by decide)

/-! ### impl_padded_k1 -/


theorem impl_padded_k1_p1 (a0 : Int) (b0 : Int) (b1 : Int) (b2 : Int) (c1 : Tr)
    (h1 : a0 = (0 : Int))
    (h2 : SC cfg.P i_impl_rightComb [.s (.v (.int .i64) b0)] (.s (.v .tree c1)) []) :
    SC cfg.P i_impl_padded_k1 [.s (.v (.int .i64) a0), .s (.fadr (.int .i64) b0), .s (.fadr (.int .i64) b1), .s (.fadr (.int .i64) b2)] (.s (.v .tree c1)) [] :=
  SC_of_run cfgOK (its := [.bool true, .res (.s (.v .tree c1)) [] [] []])
    (ps := [(a0 == (0 : Int)) = true,
      SC cfg.P i_impl_rightComb [.s (.v (.int .i64) b0)] (.s (.v .tree c1)) []]) (by kernel_rfl) ⟨(beq_t h1), h2, trivial⟩ get_impl_padded_k1 (by decide)

theorem impl_padded_k1_p2 (a0 : Int) (b0 : Int) (b1 : Int) (b2 : Int) (c1 : Tr)
    (h1 : a0 ≠ (0 : Int))
    (h2 : a0 = (IntKind.wrap .i64 (b1 - (1 : Int))))
    (h3 : SC cfg.P i_impl_rightComb [.s (.v (.int .i64) b2)] (.s (.v .tree c1)) []) :
    SC cfg.P i_impl_padded_k1 [.s (.v (.int .i64) a0), .s (.fadr (.int .i64) b0), .s (.fadr (.int .i64) b1), .s (.fadr (.int .i64) b2)] (.s (.v .tree c1)) [] :=
  SC_of_run cfgOK (its := [.bool false, .bool true, .res (.s (.v .tree c1)) [] [] []])
    (ps := [(a0 == (0 : Int)) = false,
      (a0 == (IntKind.wrap .i64 (b1 - (1 : Int)))) = true,
      SC cfg.P i_impl_rightComb [.s (.v (.int .i64) b2)] (.s (.v .tree c1)) []]) (by kernel_rfl) ⟨(beq_f h1), (beq_t h2), h3, trivial⟩ get_impl_padded_k1 (by decide)

theorem impl_padded_k1_p3 (a0 : Int) (b0 : Int) (b1 : Int) (b2 : Int)
    (h1 : a0 ≠ (0 : Int))
    (h2 : a0 ≠ (IntKind.wrap .i64 (b1 - (1 : Int)))) :
    SC cfg.P i_impl_padded_k1 [.s (.v (.int .i64) a0), .s (.fadr (.int .i64) b0), .s (.fadr (.int .i64) b1), .s (.fadr (.int .i64) b2)] (.s (.v .tree Tr.leaf)) [] :=
  SC_of_run cfgOK (its := [.bool false, .bool false])
    (ps := [(a0 == (0 : Int)) = false,
      (a0 == (IntKind.wrap .i64 (b1 - (1 : Int)))) = false]) (by kernel_rfl) ⟨(beq_f h1), (beq_f h2), trivial⟩ get_impl_padded_k1 (by decide)

/-! ### impl_rightComb -/


def impl_rightComb_L0a (x3 : Tr) (x4 : Int) (x5 : Int) : St := mkSt 12 [(3, .s (.v .tree x3)), (4, .s (.v (.int .i64) x4)), (5, .s (.v (.int .i64) x5))] []

def impl_rightComb_L0X1 (y3 : Tr) (y4 : Int) (y5 : Int) (y6 : Bool) : St := mkSt 12 [(3, .s (.v .tree y3)), (4, .s (.v (.int .i64) y4)), (5, .s (.v (.int .i64) y5)), (6, .s (.v .bool y6))] []

theorem impl_rightComb_L0a_i1 (x3 : Tr) (x4 : Int) (x5 : Int)
    (h1 : x5 < x4)
    {e : AEx} {st : St} (next : LoopSC cfg.P 1 (lb P_impl_rightComb 0) (impl_rightComb_L0a (Tr.node Tr.leaf x3) x4 (IntKind.wrap .i64 (x5 + (1 : Int)))) e st) :
    LoopSC cfg.P 1 (lb P_impl_rightComb 0) (impl_rightComb_L0a x3 x4 x5) e st :=
  loop_iter cfgOK (f := i_impl_rightComb) (its := [.bool true])
    (ps := [decide (x5 < x4) = true]) (st1 := impl_rightComb_L0a (Tr.node Tr.leaf x3) x4 (IntKind.wrap .i64 (x5 + (1 : Int)))) (by kernel_rfl) ⟨(decide_eq_true h1), trivial⟩ next

theorem impl_rightComb_L0a_x2 (x3 : Tr) (x4 : Int) (x5 : Int)
    (h1 : ¬ (x5 < x4)) :
    LoopSC cfg.P 1 (lb P_impl_rightComb 0) (impl_rightComb_L0a x3 x4 x5) (.exit 0) (impl_rightComb_L0X1 x3 x4 x5 false) :=
  loop_out cfgOK (f := i_impl_rightComb) (its := [.bool false])
    (ps := [decide (x5 < x4) = false]) (by kernel_rfl) ⟨(decide_eq_false h1), trivial⟩ (fun h => by cases h)

theorem impl_rightComb_p1 (a0 : Int) (k1y3 : Tr) (k1y4 : Int) (k1y5 : Int) (k1y6 : Bool)
    (h1 : LoopSC cfg.P 1 (lb P_impl_rightComb 0) (impl_rightComb_L0a Tr.leaf a0 (0 : Int)) (.exit 0) (impl_rightComb_L0X1 k1y3 k1y4 k1y5 k1y6)) :
    SC cfg.P i_impl_rightComb [.s (.v (.int .i64) a0)] (.s (.v .tree k1y3)) [] :=
  SC_of_run cfgOK (its := [.loop (fun _ => (.exit 0, impl_rightComb_L0X1 k1y3 k1y4 k1y5 k1y6))])
    (ps := [LoopSC cfg.P 1 (lb P_impl_rightComb 0) (impl_rightComb_L0a Tr.leaf a0 (0 : Int)) (.exit 0) (impl_rightComb_L0X1 k1y3 k1y4 k1y5 k1y6)]) (by kernel_rfl) ⟨h1, trivial⟩ get_impl_rightComb (by decide)

end Go.AI
