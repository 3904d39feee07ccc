/- A part of the road: what it proves stands in its last texts. -/
import Derived.Test.YtpfaelacdnmeaaaSIds
import Derived.Test.YtpfaelacdnmeaaaProg
set_option autoImplicit false
set_option maxRecDepth 100000
set_option linter.unusedVariables false
namespace Go.AI
open Go.Proofs

/-! ### spec_DrawAddressesOf -/


theorem spec_DrawAddressesOf_p1 (a0 : (List Int)) (c1 : ByteArray)
    (h1 : SC cfg.P i_spec_DrawIsTree [.s (.v (.sl (.int .u8)) a0)] (.s (.v .str c1)) []) :
    SC cfg.P i_spec_DrawAddressesOf [.s (.v (.sl (.int .u8)) a0)] (.s (.v .str c1)) [] :=
  SC_of_run cfgOK (its := [.res (.s (.v .str c1)) [] [] []])
    (ps := [SC cfg.P i_spec_DrawIsTree [.s (.v (.sl (.int .u8)) a0)] (.s (.v .str c1)) []]) (by kernel_rfl) ⟨h1, trivial⟩ get_spec_DrawAddressesOf (by decide)

/-! ### spec_DrawTreeWith -/


theorem spec_DrawTreeWith_p1 (a0 : (List Int)) (c1 : Int) (c1o0 : ((List Int) × (Int × Int))) (c2 : ByteArray) (c2o0 : ((List Int) × (Int × Int))) (c3 : (List ByteArray)) (c4 : Int) (c4o0 : ((List Int) × (Int × Int))) (c5 : Int) (c5o0 : ((List Int) × (Int × Int))) (c6 : ByteArray) (c6o0 : ((List Int) × (Int × Int)))
    (h1 : SC cfg.P i_spec_l1Cur_pick [.s (.mbx (.pr (.sl (.int .u8)) (.pr (.int .i64) (.int .u64))) (a0, ((0 : Int), (0 : Int)))), .s (.v (.int .i64) (7 : Int))] (.s (.v (.int .i64) c1)) [.box (.pr (.sl (.int .u8)) (.pr (.int .i64) (.int .u64))) c1o0])
    (h2 : SC cfg.P i_spec_l1Cur_sureTree [.s (.mbx (.pr (.sl (.int .u8)) (.pr (.int .i64) (.int .u64))) c1o0), .s (.v (.int .i64) c1)] (.s (.v .str c2)) [.box (.pr (.sl (.int .u8)) (.pr (.int .i64) (.int .u64))) c2o0])
    (h3 : SC cfg.P i_spec_trAddresses [.s (.v .str c2), .s (.v .str (⟨#[]⟩ : ByteArray))] (.s (.own t_string .str c3)) [])
    (h4 : SC cfg.P i_spec_l1Cur_pick [.s (.mbx (.pr (.sl (.int .u8)) (.pr (.int .i64) (.int .u64))) c2o0), .s (.v (.int .i64) (6 : Int))] (.s (.v (.int .i64) c4)) [.box (.pr (.sl (.int .u8)) (.pr (.int .i64) (.int .u64))) c4o0])
    (h5 : c4 = (0 : Int))
    (h6 : SC cfg.P i_spec_l1Cur_pick [.s (.mbx (.pr (.sl (.int .u8)) (.pr (.int .i64) (.int .u64))) c4o0), .s (.v (.int .i64) ((List.length c3 : Nat) : Int))] (.s (.v (.int .i64) c5)) [.box (.pr (.sl (.int .u8)) (.pr (.int .i64) (.int .u64))) c5o0])
    (h7 : SC cfg.P i_spec_l1Cur_of [.s (.mbx (.pr (.sl (.int .u8)) (.pr (.int .i64) (.int .u64))) c5o0), .s (.v (.sl .str) ([(⟨#[]⟩ : ByteArray), (⟨#[48]⟩ : ByteArray), (⟨#[49]⟩ : ByteArray), (⟨#[48, 49]⟩ : ByteArray), (⟨#[50]⟩ : ByteArray), (⟨#[48, 48, 48, 48, 48, 48, 48, 48, 48]⟩ : ByteArray)] : List ByteArray))] (.s (.v .str c6)) [.box (.pr (.sl (.int .u8)) (.pr (.int .i64) (.int .u64))) c6o0])
    (h8 : 0 ≤ c5)
    (h9 : c5 < (List.length c3 : Int))
    (h10 : (c5).toNat < List.length c3) :
    SC cfg.P i_spec_DrawTreeWith [.s (.v (.sl (.int .u8)) a0)] (.s (.own t_string .str (List.set c3 (c5).toNat c6))) [] :=
  SC_of_run cfgOK (its := [.res (.s (.v (.int .i64) c1)) [.box (.pr (.sl (.int .u8)) (.pr (.int .i64) (.int .u64))) c1o0] [] [], .res (.s (.v .str c2)) [.box (.pr (.sl (.int .u8)) (.pr (.int .i64) (.int .u64))) c2o0] [] [], .res (.s (.own t_string .str c3)) [] [] [12], .res (.s (.v (.int .i64) c4)) [.box (.pr (.sl (.int .u8)) (.pr (.int .i64) (.int .u64))) c4o0] [] [], .bool true, .res (.s (.v (.int .i64) c5)) [.box (.pr (.sl (.int .u8)) (.pr (.int .i64) (.int .u64))) c5o0] [] [], .res (.s (.v .str c6)) [.box (.pr (.sl (.int .u8)) (.pr (.int .i64) (.int .u64))) c6o0] [] []])
    (ps := [SC cfg.P i_spec_l1Cur_pick [.s (.mbx (.pr (.sl (.int .u8)) (.pr (.int .i64) (.int .u64))) (a0, ((0 : Int), (0 : Int)))), .s (.v (.int .i64) (7 : Int))] (.s (.v (.int .i64) c1)) [.box (.pr (.sl (.int .u8)) (.pr (.int .i64) (.int .u64))) c1o0],
      SC cfg.P i_spec_l1Cur_sureTree [.s (.mbx (.pr (.sl (.int .u8)) (.pr (.int .i64) (.int .u64))) c1o0), .s (.v (.int .i64) c1)] (.s (.v .str c2)) [.box (.pr (.sl (.int .u8)) (.pr (.int .i64) (.int .u64))) c2o0],
      SC cfg.P i_spec_trAddresses [.s (.v .str c2), .s (.v .str (⟨#[]⟩ : ByteArray))] (.s (.own t_string .str c3)) [],
      SC cfg.P i_spec_l1Cur_pick [.s (.mbx (.pr (.sl (.int .u8)) (.pr (.int .i64) (.int .u64))) c2o0), .s (.v (.int .i64) (6 : Int))] (.s (.v (.int .i64) c4)) [.box (.pr (.sl (.int .u8)) (.pr (.int .i64) (.int .u64))) c4o0],
      (c4 == (0 : Int)) = true,
      SC cfg.P i_spec_l1Cur_pick [.s (.mbx (.pr (.sl (.int .u8)) (.pr (.int .i64) (.int .u64))) c4o0), .s (.v (.int .i64) ((List.length c3 : Nat) : Int))] (.s (.v (.int .i64) c5)) [.box (.pr (.sl (.int .u8)) (.pr (.int .i64) (.int .u64))) c5o0],
      SC cfg.P i_spec_l1Cur_of [.s (.mbx (.pr (.sl (.int .u8)) (.pr (.int .i64) (.int .u64))) c5o0), .s (.v (.sl .str) ([(⟨#[]⟩ : ByteArray), (⟨#[48]⟩ : ByteArray), (⟨#[49]⟩ : ByteArray), (⟨#[48, 49]⟩ : ByteArray), (⟨#[50]⟩ : ByteArray), (⟨#[48, 48, 48, 48, 48, 48, 48, 48, 48]⟩ : ByteArray)] : List ByteArray))] (.s (.v .str c6)) [.box (.pr (.sl (.int .u8)) (.pr (.int .i64) (.int .u64))) c6o0],
      0 ≤ c5,
      c5 < (List.length c3 : Int),
      (c5).toNat < List.length c3]) (by kernel_rfl) ⟨h1, h2, h3, h4, (beq_iff_eq.mpr h5), h6, h7, h8, h9, h10, trivial⟩ get_spec_DrawTreeWith (by decide)

theorem spec_DrawTreeWith_p2 (a0 : (List Int)) (c1 : Int) (c1o0 : ((List Int) × (Int × Int))) (c2 : ByteArray) (c2o0 : ((List Int) × (Int × Int))) (c3 : (List ByteArray)) (c4 : Int) (c4o0 : ((List Int) × (Int × Int)))
    (h1 : SC cfg.P i_spec_l1Cur_pick [.s (.mbx (.pr (.sl (.int .u8)) (.pr (.int .i64) (.int .u64))) (a0, ((0 : Int), (0 : Int)))), .s (.v (.int .i64) (7 : Int))] (.s (.v (.int .i64) c1)) [.box (.pr (.sl (.int .u8)) (.pr (.int .i64) (.int .u64))) c1o0])
    (h2 : SC cfg.P i_spec_l1Cur_sureTree [.s (.mbx (.pr (.sl (.int .u8)) (.pr (.int .i64) (.int .u64))) c1o0), .s (.v (.int .i64) c1)] (.s (.v .str c2)) [.box (.pr (.sl (.int .u8)) (.pr (.int .i64) (.int .u64))) c2o0])
    (h3 : SC cfg.P i_spec_trAddresses [.s (.v .str c2), .s (.v .str (⟨#[]⟩ : ByteArray))] (.s (.own t_string .str c3)) [])
    (h4 : SC cfg.P i_spec_l1Cur_pick [.s (.mbx (.pr (.sl (.int .u8)) (.pr (.int .i64) (.int .u64))) c2o0), .s (.v (.int .i64) (6 : Int))] (.s (.v (.int .i64) c4)) [.box (.pr (.sl (.int .u8)) (.pr (.int .i64) (.int .u64))) c4o0])
    (h5 : c4 ≠ (0 : Int))
    (h6 : c4 = (1 : Int))
    (h7 : 0 ≤ (IntKind.wrap .i64 (((List.length c3 : Nat) : Int) - (1 : Int))))
    (h8 : (IntKind.wrap .i64 (((List.length c3 : Nat) : Int) - (1 : Int))) ≤ (List.length c3 : Int)) :
    SC cfg.P i_spec_DrawTreeWith [.s (.v (.sl (.int .u8)) a0)] (.s (.v (.sl .str) (cutL c3 (0 : Int) (IntKind.wrap .i64 (((List.length c3 : Nat) : Int) - (1 : Int)))))) [] :=
  SC_of_run cfgOK (its := [.res (.s (.v (.int .i64) c1)) [.box (.pr (.sl (.int .u8)) (.pr (.int .i64) (.int .u64))) c1o0] [] [], .res (.s (.v .str c2)) [.box (.pr (.sl (.int .u8)) (.pr (.int .i64) (.int .u64))) c2o0] [] [], .res (.s (.own t_string .str c3)) [] [] [12], .res (.s (.v (.int .i64) c4)) [.box (.pr (.sl (.int .u8)) (.pr (.int .i64) (.int .u64))) c4o0] [] [], .bool false, .bool true, .std])
    (ps := [SC cfg.P i_spec_l1Cur_pick [.s (.mbx (.pr (.sl (.int .u8)) (.pr (.int .i64) (.int .u64))) (a0, ((0 : Int), (0 : Int)))), .s (.v (.int .i64) (7 : Int))] (.s (.v (.int .i64) c1)) [.box (.pr (.sl (.int .u8)) (.pr (.int .i64) (.int .u64))) c1o0],
      SC cfg.P i_spec_l1Cur_sureTree [.s (.mbx (.pr (.sl (.int .u8)) (.pr (.int .i64) (.int .u64))) c1o0), .s (.v (.int .i64) c1)] (.s (.v .str c2)) [.box (.pr (.sl (.int .u8)) (.pr (.int .i64) (.int .u64))) c2o0],
      SC cfg.P i_spec_trAddresses [.s (.v .str c2), .s (.v .str (⟨#[]⟩ : ByteArray))] (.s (.own t_string .str c3)) [],
      SC cfg.P i_spec_l1Cur_pick [.s (.mbx (.pr (.sl (.int .u8)) (.pr (.int .i64) (.int .u64))) c2o0), .s (.v (.int .i64) (6 : Int))] (.s (.v (.int .i64) c4)) [.box (.pr (.sl (.int .u8)) (.pr (.int .i64) (.int .u64))) c4o0],
      (c4 == (0 : Int)) = false,
      (c4 == (1 : Int)) = true,
      0 ≤ (IntKind.wrap .i64 (((List.length c3 : Nat) : Int) - (1 : Int))),
      (IntKind.wrap .i64 (((List.length c3 : Nat) : Int) - (1 : Int))) ≤ (List.length c3 : Int)]) (by kernel_rfl) ⟨h1, h2, h3, h4, (beq_eq_false_iff_ne.mpr h5), (beq_iff_eq.mpr h6), h7, h8, trivial⟩ get_spec_DrawTreeWith (by decide)

theorem spec_DrawTreeWith_p3 (a0 : (List Int)) (c1 : Int) (c1o0 : ((List Int) × (Int × Int))) (c2 : ByteArray) (c2o0 : ((List Int) × (Int × Int))) (c3 : (List ByteArray)) (c4 : Int) (c4o0 : ((List Int) × (Int × Int)))
    (h1 : SC cfg.P i_spec_l1Cur_pick [.s (.mbx (.pr (.sl (.int .u8)) (.pr (.int .i64) (.int .u64))) (a0, ((0 : Int), (0 : Int)))), .s (.v (.int .i64) (7 : Int))] (.s (.v (.int .i64) c1)) [.box (.pr (.sl (.int .u8)) (.pr (.int .i64) (.int .u64))) c1o0])
    (h2 : SC cfg.P i_spec_l1Cur_sureTree [.s (.mbx (.pr (.sl (.int .u8)) (.pr (.int .i64) (.int .u64))) c1o0), .s (.v (.int .i64) c1)] (.s (.v .str c2)) [.box (.pr (.sl (.int .u8)) (.pr (.int .i64) (.int .u64))) c2o0])
    (h3 : SC cfg.P i_spec_trAddresses [.s (.v .str c2), .s (.v .str (⟨#[]⟩ : ByteArray))] (.s (.own t_string .str c3)) [])
    (h4 : SC cfg.P i_spec_l1Cur_pick [.s (.mbx (.pr (.sl (.int .u8)) (.pr (.int .i64) (.int .u64))) c2o0), .s (.v (.int .i64) (6 : Int))] (.s (.v (.int .i64) c4)) [.box (.pr (.sl (.int .u8)) (.pr (.int .i64) (.int .u64))) c4o0])
    (h5 : c4 ≠ (0 : Int))
    (h6 : c4 ≠ (1 : Int))
    (h7 : c4 = (2 : Int))
    (h8 : sizeOK (List.length c3 + List.length ([(⟨#[49]⟩ : ByteArray)] : List ByteArray))) :
    SC cfg.P i_spec_DrawTreeWith [.s (.v (.sl (.int .u8)) a0)] (.s (.own t_string .str (c3 ++ ([(⟨#[49]⟩ : ByteArray)] : List ByteArray)))) [] :=
  SC_of_run cfgOK (its := [.res (.s (.v (.int .i64) c1)) [.box (.pr (.sl (.int .u8)) (.pr (.int .i64) (.int .u64))) c1o0] [] [], .res (.s (.v .str c2)) [.box (.pr (.sl (.int .u8)) (.pr (.int .i64) (.int .u64))) c2o0] [] [], .res (.s (.own t_string .str c3)) [] [] [12], .res (.s (.v (.int .i64) c4)) [.box (.pr (.sl (.int .u8)) (.pr (.int .i64) (.int .u64))) c4o0] [] [], .bool false, .bool false, .bool true])
    (ps := [SC cfg.P i_spec_l1Cur_pick [.s (.mbx (.pr (.sl (.int .u8)) (.pr (.int .i64) (.int .u64))) (a0, ((0 : Int), (0 : Int)))), .s (.v (.int .i64) (7 : Int))] (.s (.v (.int .i64) c1)) [.box (.pr (.sl (.int .u8)) (.pr (.int .i64) (.int .u64))) c1o0],
      SC cfg.P i_spec_l1Cur_sureTree [.s (.mbx (.pr (.sl (.int .u8)) (.pr (.int .i64) (.int .u64))) c1o0), .s (.v (.int .i64) c1)] (.s (.v .str c2)) [.box (.pr (.sl (.int .u8)) (.pr (.int .i64) (.int .u64))) c2o0],
      SC cfg.P i_spec_trAddresses [.s (.v .str c2), .s (.v .str (⟨#[]⟩ : ByteArray))] (.s (.own t_string .str c3)) [],
      SC cfg.P i_spec_l1Cur_pick [.s (.mbx (.pr (.sl (.int .u8)) (.pr (.int .i64) (.int .u64))) c2o0), .s (.v (.int .i64) (6 : Int))] (.s (.v (.int .i64) c4)) [.box (.pr (.sl (.int .u8)) (.pr (.int .i64) (.int .u64))) c4o0],
      (c4 == (0 : Int)) = false,
      (c4 == (1 : Int)) = false,
      (c4 == (2 : Int)) = true,
      sizeOK (List.length c3 + List.length ([(⟨#[49]⟩ : ByteArray)] : List ByteArray))]) (by kernel_rfl) ⟨h1, h2, h3, h4, (beq_eq_false_iff_ne.mpr h5), (beq_eq_false_iff_ne.mpr h6), (beq_iff_eq.mpr h7), h8, trivial⟩ get_spec_DrawTreeWith (by decide)

theorem spec_DrawTreeWith_p4 (a0 : (List Int)) (c1 : Int) (c1o0 : ((List Int) × (Int × Int))) (c2 : ByteArray) (c2o0 : ((List Int) × (Int × Int))) (c3 : (List ByteArray)) (c4 : Int) (c4o0 : ((List Int) × (Int × Int)))
    (h1 : SC cfg.P i_spec_l1Cur_pick [.s (.mbx (.pr (.sl (.int .u8)) (.pr (.int .i64) (.int .u64))) (a0, ((0 : Int), (0 : Int)))), .s (.v (.int .i64) (7 : Int))] (.s (.v (.int .i64) c1)) [.box (.pr (.sl (.int .u8)) (.pr (.int .i64) (.int .u64))) c1o0])
    (h2 : SC cfg.P i_spec_l1Cur_sureTree [.s (.mbx (.pr (.sl (.int .u8)) (.pr (.int .i64) (.int .u64))) c1o0), .s (.v (.int .i64) c1)] (.s (.v .str c2)) [.box (.pr (.sl (.int .u8)) (.pr (.int .i64) (.int .u64))) c2o0])
    (h3 : SC cfg.P i_spec_trAddresses [.s (.v .str c2), .s (.v .str (⟨#[]⟩ : ByteArray))] (.s (.own t_string .str c3)) [])
    (h4 : SC cfg.P i_spec_l1Cur_pick [.s (.mbx (.pr (.sl (.int .u8)) (.pr (.int .i64) (.int .u64))) c2o0), .s (.v (.int .i64) (6 : Int))] (.s (.v (.int .i64) c4)) [.box (.pr (.sl (.int .u8)) (.pr (.int .i64) (.int .u64))) c4o0])
    (h5 : c4 ≠ (0 : Int))
    (h6 : c4 ≠ (1 : Int))
    (h7 : c4 ≠ (2 : Int)) :
    SC cfg.P i_spec_DrawTreeWith [.s (.v (.sl (.int .u8)) a0)] (.s (.own t_string .str c3)) [] :=
  SC_of_run cfgOK (its := [.res (.s (.v (.int .i64) c1)) [.box (.pr (.sl (.int .u8)) (.pr (.int .i64) (.int .u64))) c1o0] [] [], .res (.s (.v .str c2)) [.box (.pr (.sl (.int .u8)) (.pr (.int .i64) (.int .u64))) c2o0] [] [], .res (.s (.own t_string .str c3)) [] [] [12], .res (.s (.v (.int .i64) c4)) [.box (.pr (.sl (.int .u8)) (.pr (.int .i64) (.int .u64))) c4o0] [] [], .bool false, .bool false, .bool false])
    (ps := [SC cfg.P i_spec_l1Cur_pick [.s (.mbx (.pr (.sl (.int .u8)) (.pr (.int .i64) (.int .u64))) (a0, ((0 : Int), (0 : Int)))), .s (.v (.int .i64) (7 : Int))] (.s (.v (.int .i64) c1)) [.box (.pr (.sl (.int .u8)) (.pr (.int .i64) (.int .u64))) c1o0],
      SC cfg.P i_spec_l1Cur_sureTree [.s (.mbx (.pr (.sl (.int .u8)) (.pr (.int .i64) (.int .u64))) c1o0), .s (.v (.int .i64) c1)] (.s (.v .str c2)) [.box (.pr (.sl (.int .u8)) (.pr (.int .i64) (.int .u64))) c2o0],
      SC cfg.P i_spec_trAddresses [.s (.v .str c2), .s (.v .str (⟨#[]⟩ : ByteArray))] (.s (.own t_string .str c3)) [],
      SC cfg.P i_spec_l1Cur_pick [.s (.mbx (.pr (.sl (.int .u8)) (.pr (.int .i64) (.int .u64))) c2o0), .s (.v (.int .i64) (6 : Int))] (.s (.v (.int .i64) c4)) [.box (.pr (.sl (.int .u8)) (.pr (.int .i64) (.int .u64))) c4o0],
      (c4 == (0 : Int)) = false,
      (c4 == (1 : Int)) = false,
      (c4 == (2 : Int)) = false]) (by kernel_rfl) ⟨h1, h2, h3, h4, (beq_eq_false_iff_ne.mpr h5), (beq_eq_false_iff_ne.mpr h6), (beq_eq_false_iff_ne.mpr h7), trivial⟩ get_spec_DrawTreeWith (by decide)

/-! ### spec_DrawDropExposed -/


theorem spec_DrawDropExposed_p1 (a0 : (List Int)) (c1 : ByteArray) (c1o0 : ((List Int) × (Int × Int))) (c3o0 : ((List Int) × (Int × Int))) (c4 : Int) (c4o0 : ((List Int) × (Int × Int)))
    (h1 : SC cfg.P i_spec_l1Cur_tree [.s (.mbx (.pr (.sl (.int .u8)) (.pr (.int .i64) (.int .u64))) (a0, ((0 : Int), (0 : Int)))), .s (.v (.int .i64) (7 : Int))] (.s (.v .str c1)) [.box (.pr (.sl (.int .u8)) (.pr (.int .i64) (.int .u64))) c1o0])
    (h2 : SC cfg.P i_spec_trIs [.s (.v .str c1)] (.s (.v .bool true)) [])
    (h3 : SC cfg.P i_spec_l1Cur_one [.s (.mbx (.pr (.sl (.int .u8)) (.pr (.int .i64) (.int .u64))) c1o0), .s (.v (.int .i64) (3 : Int))] (.s (.v .bool true)) [.box (.pr (.sl (.int .u8)) (.pr (.int .i64) (.int .u64))) c3o0])
    (h4 : SC cfg.P i_spec_l1Cur_pick [.s (.mbx (.pr (.sl (.int .u8)) (.pr (.int .i64) (.int .u64))) c3o0), .s (.v (.int .i64) (9 : Int))] (.s (.v (.int .i64) c4)) [.box (.pr (.sl (.int .u8)) (.pr (.int .i64) (.int .u64))) c4o0]) :
    SC cfg.P i_spec_DrawDropExposed [.s (.v (.sl (.int .u8)) a0)] (.tup [.v .str c1, .v (.int .i64) (IntKind.wrap .i64 (c4 - (1 : Int)))]) [] :=
  SC_of_run cfgOK (its := [.res (.s (.v .str c1)) [.box (.pr (.sl (.int .u8)) (.pr (.int .i64) (.int .u64))) c1o0] [] [], .res (.s (.v .bool true)) [] [] [], .res (.s (.v .bool true)) [.box (.pr (.sl (.int .u8)) (.pr (.int .i64) (.int .u64))) c3o0] [] [], .res (.s (.v (.int .i64) c4)) [.box (.pr (.sl (.int .u8)) (.pr (.int .i64) (.int .u64))) c4o0] [] []])
    (ps := [SC cfg.P i_spec_l1Cur_tree [.s (.mbx (.pr (.sl (.int .u8)) (.pr (.int .i64) (.int .u64))) (a0, ((0 : Int), (0 : Int)))), .s (.v (.int .i64) (7 : Int))] (.s (.v .str c1)) [.box (.pr (.sl (.int .u8)) (.pr (.int .i64) (.int .u64))) c1o0],
      SC cfg.P i_spec_trIs [.s (.v .str c1)] (.s (.v .bool true)) [],
      SC cfg.P i_spec_l1Cur_one [.s (.mbx (.pr (.sl (.int .u8)) (.pr (.int .i64) (.int .u64))) c1o0), .s (.v (.int .i64) (3 : Int))] (.s (.v .bool true)) [.box (.pr (.sl (.int .u8)) (.pr (.int .i64) (.int .u64))) c3o0],
      SC cfg.P i_spec_l1Cur_pick [.s (.mbx (.pr (.sl (.int .u8)) (.pr (.int .i64) (.int .u64))) c3o0), .s (.v (.int .i64) (9 : Int))] (.s (.v (.int .i64) c4)) [.box (.pr (.sl (.int .u8)) (.pr (.int .i64) (.int .u64))) c4o0]]) (by kernel_rfl) ⟨h1, h2, h3, h4, trivial⟩ get_spec_DrawDropExposed (by decide)

theorem spec_DrawDropExposed_p2 (a0 : (List Int)) (c1 : ByteArray) (c1o0 : ((List Int) × (Int × Int))) (c3o0 : ((List Int) × (Int × Int))) (c4 : (List Int)) (c5 : Int) (c5o0 : ((List Int) × (Int × Int)))
    (h1 : SC cfg.P i_spec_l1Cur_tree [.s (.mbx (.pr (.sl (.int .u8)) (.pr (.int .i64) (.int .u64))) (a0, ((0 : Int), (0 : Int)))), .s (.v (.int .i64) (7 : Int))] (.s (.v .str c1)) [.box (.pr (.sl (.int .u8)) (.pr (.int .i64) (.int .u64))) c1o0])
    (h2 : SC cfg.P i_spec_trIs [.s (.v .str c1)] (.s (.v .bool true)) [])
    (h3 : SC cfg.P i_spec_l1Cur_one [.s (.mbx (.pr (.sl (.int .u8)) (.pr (.int .i64) (.int .u64))) c1o0), .s (.v (.int .i64) (3 : Int))] (.s (.v .bool false)) [.box (.pr (.sl (.int .u8)) (.pr (.int .i64) (.int .u64))) c3o0])
    (h4 : SC cfg.P i_spec_trExposed [.s (.v .str c1)] (.s (.own t_int (.int .i64) c4)) [])
    (h5 : ((List.length c4 : Nat) : Int) > (0 : Int))
    (h6 : SC cfg.P i_spec_l1Cur_pick [.s (.mbx (.pr (.sl (.int .u8)) (.pr (.int .i64) (.int .u64))) c3o0), .s (.v (.int .i64) ((List.length c4 : Nat) : Int))] (.s (.v (.int .i64) c5)) [.box (.pr (.sl (.int .u8)) (.pr (.int .i64) (.int .u64))) c5o0])
    (h7 : 0 ≤ c5)
    (h8 : c5 < (List.length c4 : Int))
    (h9 : (c5).toNat < List.length c4) :
    SC cfg.P i_spec_DrawDropExposed [.s (.v (.sl (.int .u8)) a0)] (.tup [.v .str c1, .v (.int .i64) (List.getD c4 (c5).toNat (0 : Int))]) [] :=
  SC_of_run cfgOK (its := [.res (.s (.v .str c1)) [.box (.pr (.sl (.int .u8)) (.pr (.int .i64) (.int .u64))) c1o0] [] [], .res (.s (.v .bool true)) [] [] [], .res (.s (.v .bool false)) [.box (.pr (.sl (.int .u8)) (.pr (.int .i64) (.int .u64))) c3o0] [] [], .res (.s (.own t_int (.int .i64) c4)) [] [] [20], .bool true, .res (.s (.v (.int .i64) c5)) [.box (.pr (.sl (.int .u8)) (.pr (.int .i64) (.int .u64))) c5o0] [] []])
    (ps := [SC cfg.P i_spec_l1Cur_tree [.s (.mbx (.pr (.sl (.int .u8)) (.pr (.int .i64) (.int .u64))) (a0, ((0 : Int), (0 : Int)))), .s (.v (.int .i64) (7 : Int))] (.s (.v .str c1)) [.box (.pr (.sl (.int .u8)) (.pr (.int .i64) (.int .u64))) c1o0],
      SC cfg.P i_spec_trIs [.s (.v .str c1)] (.s (.v .bool true)) [],
      SC cfg.P i_spec_l1Cur_one [.s (.mbx (.pr (.sl (.int .u8)) (.pr (.int .i64) (.int .u64))) c1o0), .s (.v (.int .i64) (3 : Int))] (.s (.v .bool false)) [.box (.pr (.sl (.int .u8)) (.pr (.int .i64) (.int .u64))) c3o0],
      SC cfg.P i_spec_trExposed [.s (.v .str c1)] (.s (.own t_int (.int .i64) c4)) [],
      decide (((List.length c4 : Nat) : Int) > (0 : Int)) = true,
      SC cfg.P i_spec_l1Cur_pick [.s (.mbx (.pr (.sl (.int .u8)) (.pr (.int .i64) (.int .u64))) c3o0), .s (.v (.int .i64) ((List.length c4 : Nat) : Int))] (.s (.v (.int .i64) c5)) [.box (.pr (.sl (.int .u8)) (.pr (.int .i64) (.int .u64))) c5o0],
      0 ≤ c5,
      c5 < (List.length c4 : Int),
      (c5).toNat < List.length c4]) (by kernel_rfl) ⟨h1, h2, h3, h4, (decide_eq_true h5), h6, h7, h8, h9, trivial⟩ get_spec_DrawDropExposed (by decide)

theorem spec_DrawDropExposed_p3 (a0 : (List Int)) (c1 : ByteArray) (c1o0 : ((List Int) × (Int × Int))) (c3o0 : ((List Int) × (Int × Int))) (c4 : (List Int)) (c5 : Int) (c5o0 : ((List Int) × (Int × Int)))
    (h1 : SC cfg.P i_spec_l1Cur_tree [.s (.mbx (.pr (.sl (.int .u8)) (.pr (.int .i64) (.int .u64))) (a0, ((0 : Int), (0 : Int)))), .s (.v (.int .i64) (7 : Int))] (.s (.v .str c1)) [.box (.pr (.sl (.int .u8)) (.pr (.int .i64) (.int .u64))) c1o0])
    (h2 : SC cfg.P i_spec_trIs [.s (.v .str c1)] (.s (.v .bool true)) [])
    (h3 : SC cfg.P i_spec_l1Cur_one [.s (.mbx (.pr (.sl (.int .u8)) (.pr (.int .i64) (.int .u64))) c1o0), .s (.v (.int .i64) (3 : Int))] (.s (.v .bool false)) [.box (.pr (.sl (.int .u8)) (.pr (.int .i64) (.int .u64))) c3o0])
    (h4 : SC cfg.P i_spec_trExposed [.s (.v .str c1)] (.s (.own t_int (.int .i64) c4)) [])
    (h5 : ¬ (((List.length c4 : Nat) : Int) > (0 : Int)))
    (h6 : SC cfg.P i_spec_l1Cur_pick [.s (.mbx (.pr (.sl (.int .u8)) (.pr (.int .i64) (.int .u64))) c3o0), .s (.v (.int .i64) (9 : Int))] (.s (.v (.int .i64) c5)) [.box (.pr (.sl (.int .u8)) (.pr (.int .i64) (.int .u64))) c5o0]) :
    SC cfg.P i_spec_DrawDropExposed [.s (.v (.sl (.int .u8)) a0)] (.tup [.v .str c1, .v (.int .i64) (IntKind.wrap .i64 (c5 - (1 : Int)))]) [] :=
  SC_of_run cfgOK (its := [.res (.s (.v .str c1)) [.box (.pr (.sl (.int .u8)) (.pr (.int .i64) (.int .u64))) c1o0] [] [], .res (.s (.v .bool true)) [] [] [], .res (.s (.v .bool false)) [.box (.pr (.sl (.int .u8)) (.pr (.int .i64) (.int .u64))) c3o0] [] [], .res (.s (.own t_int (.int .i64) c4)) [] [] [20], .bool false, .res (.s (.v (.int .i64) c5)) [.box (.pr (.sl (.int .u8)) (.pr (.int .i64) (.int .u64))) c5o0] [] []])
    (ps := [SC cfg.P i_spec_l1Cur_tree [.s (.mbx (.pr (.sl (.int .u8)) (.pr (.int .i64) (.int .u64))) (a0, ((0 : Int), (0 : Int)))), .s (.v (.int .i64) (7 : Int))] (.s (.v .str c1)) [.box (.pr (.sl (.int .u8)) (.pr (.int .i64) (.int .u64))) c1o0],
      SC cfg.P i_spec_trIs [.s (.v .str c1)] (.s (.v .bool true)) [],
      SC cfg.P i_spec_l1Cur_one [.s (.mbx (.pr (.sl (.int .u8)) (.pr (.int .i64) (.int .u64))) c1o0), .s (.v (.int .i64) (3 : Int))] (.s (.v .bool false)) [.box (.pr (.sl (.int .u8)) (.pr (.int .i64) (.int .u64))) c3o0],
      SC cfg.P i_spec_trExposed [.s (.v .str c1)] (.s (.own t_int (.int .i64) c4)) [],
      decide (((List.length c4 : Nat) : Int) > (0 : Int)) = false,
      SC cfg.P i_spec_l1Cur_pick [.s (.mbx (.pr (.sl (.int .u8)) (.pr (.int .i64) (.int .u64))) c3o0), .s (.v (.int .i64) (9 : Int))] (.s (.v (.int .i64) c5)) [.box (.pr (.sl (.int .u8)) (.pr (.int .i64) (.int .u64))) c5o0]]) (by kernel_rfl) ⟨h1, h2, h3, h4, (decide_eq_false h5), h6, trivial⟩ get_spec_DrawDropExposed (by decide)

theorem spec_DrawDropExposed_p4 (a0 : (List Int)) (c1 : ByteArray) (c1o0 : ((List Int) × (Int × Int))) (c3 : Int) (c3o0 : ((List Int) × (Int × Int)))
    (h1 : SC cfg.P i_spec_l1Cur_tree [.s (.mbx (.pr (.sl (.int .u8)) (.pr (.int .i64) (.int .u64))) (a0, ((0 : Int), (0 : Int)))), .s (.v (.int .i64) (7 : Int))] (.s (.v .str c1)) [.box (.pr (.sl (.int .u8)) (.pr (.int .i64) (.int .u64))) c1o0])
    (h2 : SC cfg.P i_spec_trIs [.s (.v .str c1)] (.s (.v .bool false)) [])
    (h3 : SC cfg.P i_spec_l1Cur_pick [.s (.mbx (.pr (.sl (.int .u8)) (.pr (.int .i64) (.int .u64))) c1o0), .s (.v (.int .i64) (9 : Int))] (.s (.v (.int .i64) c3)) [.box (.pr (.sl (.int .u8)) (.pr (.int .i64) (.int .u64))) c3o0]) :
    SC cfg.P i_spec_DrawDropExposed [.s (.v (.sl (.int .u8)) a0)] (.tup [.v .str c1, .v (.int .i64) (IntKind.wrap .i64 (c3 - (1 : Int)))]) [] :=
  SC_of_run cfgOK (its := [.res (.s (.v .str c1)) [.box (.pr (.sl (.int .u8)) (.pr (.int .i64) (.int .u64))) c1o0] [] [], .res (.s (.v .bool false)) [] [] [], .res (.s (.v (.int .i64) c3)) [.box (.pr (.sl (.int .u8)) (.pr (.int .i64) (.int .u64))) c3o0] [] []])
    (ps := [SC cfg.P i_spec_l1Cur_tree [.s (.mbx (.pr (.sl (.int .u8)) (.pr (.int .i64) (.int .u64))) (a0, ((0 : Int), (0 : Int)))), .s (.v (.int .i64) (7 : Int))] (.s (.v .str c1)) [.box (.pr (.sl (.int .u8)) (.pr (.int .i64) (.int .u64))) c1o0],
      SC cfg.P i_spec_trIs [.s (.v .str c1)] (.s (.v .bool false)) [],
      SC cfg.P i_spec_l1Cur_pick [.s (.mbx (.pr (.sl (.int .u8)) (.pr (.int .i64) (.int .u64))) c1o0), .s (.v (.int .i64) (9 : Int))] (.s (.v (.int .i64) c3)) [.box (.pr (.sl (.int .u8)) (.pr (.int .i64) (.int .u64))) c3o0]]) (by kernel_rfl) ⟨h1, h2, h3, trivial⟩ get_spec_DrawDropExposed (by decide)

/-! ### spec_DrawIsTree -/


theorem spec_DrawIsTree_p1 (a0 : (List Int)) (c1 : ByteArray) (c1o0 : ((List Int) × (Int × Int)))
    (h1 : SC cfg.P i_spec_l1Cur_tree [.s (.mbx (.pr (.sl (.int .u8)) (.pr (.int .i64) (.int .u64))) (a0, ((0 : Int), (0 : Int)))), .s (.v (.int .i64) (7 : Int))] (.s (.v .str c1)) [.box (.pr (.sl (.int .u8)) (.pr (.int .i64) (.int .u64))) c1o0]) :
    SC cfg.P i_spec_DrawIsTree [.s (.v (.sl (.int .u8)) a0)] (.s (.v .str c1)) [] :=
  SC_of_run cfgOK (its := [.res (.s (.v .str c1)) [.box (.pr (.sl (.int .u8)) (.pr (.int .i64) (.int .u64))) c1o0] [] []])
    (ps := [SC cfg.P i_spec_l1Cur_tree [.s (.mbx (.pr (.sl (.int .u8)) (.pr (.int .i64) (.int .u64))) (a0, ((0 : Int), (0 : Int)))), .s (.v (.int .i64) (7 : Int))] (.s (.v .str c1)) [.box (.pr (.sl (.int .u8)) (.pr (.int .i64) (.int .u64))) c1o0]]) (by kernel_rfl) ⟨h1, trivial⟩ get_spec_DrawIsTree (by decide)

end Go.AI
