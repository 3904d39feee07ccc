/- A part of the road: what it proves stands in its last texts. -/
import Derived.Test.YtlimomnchicfgaaSIds
import Derived.Test.YtlimomnchicfgaaProg
set_option autoImplicit false
set_option maxRecDepth 100000
set_option linter.unusedVariables false
namespace Go.AI
open Go.Proofs

/-! ### laws_FnExactNextLengths -/


theorem laws_FnExactNextLengths_p1 (a0 : (ByteArray × ByteArray)) (c1 : Int)
    (h1 : SC cfg.P i_laws_szPair [.s (.v (.pr .str .str) a0), .s (.v (.int .i64) (1048576 : Int))] (.s (.v (.int .i64) c1)) [])
    (h2 : c1 < (0 : Int)) :
    SC cfg.P i_laws_FnExactNextLengths [.s (.v (.pr .str .str) a0)] (.s (.v .bool true)) [] :=
  SC_of_run cfgOK (its := [.res (.s (.v (.int .i64) c1)) [] [] [], .bool true])
    (ps := [SC cfg.P i_laws_szPair [.s (.v (.pr .str .str) a0), .s (.v (.int .i64) (1048576 : Int))] (.s (.v (.int .i64) c1)) [],
      decide (c1 < (0 : Int)) = true]) (by kernel_rfl) ⟨h1, (decide_eq_true h2), trivial⟩ get_laws_FnExactNextLengths (by decide)

theorem laws_FnExactNextLengths_p2 (a0 : (ByteArray × ByteArray)) (c1 : Int) (c2 : (ByteArray × ByteArray)) (c3a : (List Int)) (c3b : Bool) (c4 : (ByteArray × ByteArray)) (c5a : (List Int)) (c5b : Bool) (c7 : Int) (c7o0 : (List Int)) (c8 : Int) (c9 : (ByteArray × ByteArray)) (c10a : (List Int)) (c10b : Bool) (c12 : Int)
    (h1 : SC cfg.P i_laws_szPair [.s (.v (.pr .str .str) a0), .s (.v (.int .i64) (1048576 : Int))] (.s (.v (.int .i64) c1)) [])
    (h2 : ¬ (c1 < (0 : Int)))
    (h3 : SC cfg.P i_laws_toPair [.s (.v (.pr .str .str) a0)] (.s (.v (.pr .str .str) c2)) [])
    (h4 : SC cfg.P i_spec_NextLengths [.s (.v (.pr .str .str) c2)] (.tup [.own t_int (.int .i64) c3a, .v .bool c3b]) [])
    (h5 : SC cfg.P i_laws_toPair [.s (.v (.pr .str .str) a0)] (.s (.v (.pr .str .str) c4)) [])
    (h6 : SC cfg.P i_impl_NextLengths [.s (.v (.pr .str .str) c4)] (.tup [.own t_int (.int .i64) c5a, .v .bool c5b]) [])
    (h7 : SC cfg.P i_laws_eqIntS [.s (.v (.sl (.int .i64)) c5a), .s (.v (.sl (.int .i64)) c3a)] (.s (.v .bool true)) [])
    (h8 : (!(c5b == c3b)) = false)
    (h9 : SC cfg.P i_laws_markIntS [.s (.msl t_int (.int .i64) c5a), .s (.v (.int .i64) (1 : Int))] (.s (.v (.int .i64) c7)) [.row t_int (.int .i64) c7o0])
    (h10 : SC cfg.P i_laws_heldIntS [.s (.v (.sl (.int .i64)) c7o0), .s (.v (.int .i64) (1 : Int))] (.s (.v (.int .i64) c8)) [])
    (h11 : ¬ (c8 < (0 : Int)))
    (h12 : c8 = c7)
    (h13 : SC cfg.P i_laws_toPair [.s (.v (.pr .str .str) a0)] (.s (.v (.pr .str .str) c9)) [])
    (h14 : SC cfg.P i_impl_NextLengths [.s (.v (.pr .str .str) c9)] (.tup [.own t_int (.int .i64) c10a, .v .bool c10b]) [])
    (h15 : SC cfg.P i_laws_eqIntS [.s (.v (.sl (.int .i64)) c10a), .s (.v (.sl (.int .i64)) c3a)] (.s (.v .bool true)) [])
    (h16 : (!(c10b == c3b)) = false)
    (h17 : SC cfg.P i_laws_heldIntS [.s (.v (.sl (.int .i64)) c7o0), .s (.v (.int .i64) (1 : Int))] (.s (.v (.int .i64) c12)) [])
    (h18 : ¬ (c12 < (0 : Int)))
    (h19 : c12 = c7) :
    SC cfg.P i_laws_FnExactNextLengths [.s (.v (.pr .str .str) a0)] (.s (.v .bool true)) [] :=
  SC_of_run cfgOK (its := [.res (.s (.v (.int .i64) c1)) [] [] [], .bool false, .res (.s (.v (.pr .str .str) c2)) [] [] [], .res (.tup [.own t_int (.int .i64) c3a, .v .bool c3b]) [] [] [20], .res (.s (.v (.pr .str .str) c4)) [] [] [], .res (.tup [.own t_int (.int .i64) c5a, .v .bool c5b]) [] [] [26], .res (.s (.v .bool true)) [] [] [], .bool false, .res (.s (.v (.int .i64) c7)) [.row t_int (.int .i64) c7o0] [0] [], .res (.s (.v (.int .i64) c8)) [] [] [], .bool false, .bool false, .res (.s (.v (.pr .str .str) c9)) [] [] [], .res (.tup [.own t_int (.int .i64) c10a, .v .bool c10b]) [] [] [52], .res (.s (.v .bool true)) [] [] [], .bool false, .res (.s (.v (.int .i64) c12)) [] [] [], .bool false, .bool false])
    (ps := [SC cfg.P i_laws_szPair [.s (.v (.pr .str .str) a0), .s (.v (.int .i64) (1048576 : Int))] (.s (.v (.int .i64) c1)) [],
      decide (c1 < (0 : Int)) = false,
      SC cfg.P i_laws_toPair [.s (.v (.pr .str .str) a0)] (.s (.v (.pr .str .str) c2)) [],
      SC cfg.P i_spec_NextLengths [.s (.v (.pr .str .str) c2)] (.tup [.own t_int (.int .i64) c3a, .v .bool c3b]) [],
      SC cfg.P i_laws_toPair [.s (.v (.pr .str .str) a0)] (.s (.v (.pr .str .str) c4)) [],
      SC cfg.P i_impl_NextLengths [.s (.v (.pr .str .str) c4)] (.tup [.own t_int (.int .i64) c5a, .v .bool c5b]) [],
      SC cfg.P i_laws_eqIntS [.s (.v (.sl (.int .i64)) c5a), .s (.v (.sl (.int .i64)) c3a)] (.s (.v .bool true)) [],
      (!(c5b == c3b)) = false,
      SC cfg.P i_laws_markIntS [.s (.msl t_int (.int .i64) c5a), .s (.v (.int .i64) (1 : Int))] (.s (.v (.int .i64) c7)) [.row t_int (.int .i64) c7o0],
      SC cfg.P i_laws_heldIntS [.s (.v (.sl (.int .i64)) c7o0), .s (.v (.int .i64) (1 : Int))] (.s (.v (.int .i64) c8)) [],
      decide (c8 < (0 : Int)) = false,
      (c8 != c7) = false,
      SC cfg.P i_laws_toPair [.s (.v (.pr .str .str) a0)] (.s (.v (.pr .str .str) c9)) [],
      SC cfg.P i_impl_NextLengths [.s (.v (.pr .str .str) c9)] (.tup [.own t_int (.int .i64) c10a, .v .bool c10b]) [],
      SC cfg.P i_laws_eqIntS [.s (.v (.sl (.int .i64)) c10a), .s (.v (.sl (.int .i64)) c3a)] (.s (.v .bool true)) [],
      (!(c10b == c3b)) = false,
      SC cfg.P i_laws_heldIntS [.s (.v (.sl (.int .i64)) c7o0), .s (.v (.int .i64) (1 : Int))] (.s (.v (.int .i64) c12)) [],
      decide (c12 < (0 : Int)) = false,
      (c12 != c7) = false]) (by kernel_rfl) ⟨h1, (decide_eq_false h2), h3, h4, h5, h6, h7, h8, h9, h10, (decide_eq_false h11), (bne_f h12), h13, h14, h15, h16, h17, (decide_eq_false h18), (bne_f h19), trivial⟩ get_laws_FnExactNextLengths (by decide)

/-! ### spec_NextLengths -/


theorem spec_NextLengths_p1 (a0 : (ByteArray × ByteArray)) (c2 : (ByteArray × ByteArray)) (c3 : (List Int))
    (h1 : SC cfg.P i_spec_prGood [.s (.v (.pr .str .str) a0)] (.s (.v .bool true)) [])
    (h2 : SC cfg.P i_spec_prReduce [.s (.v (.pr .str .str) a0), .s (.v (.sl (.int .i64)) ([] : List Int))] (.s (.v (.pr .str .str) c2)) [])
    (h3 : SC cfg.P i_spec_lnNext [.s (.v (.pr .str .str) c2)] (.s (.own t_int (.int .i64) c3)) []) :
    SC cfg.P i_spec_NextLengths [.s (.v (.pr .str .str) a0)] (.tup [.own t_int (.int .i64) c3, .v .bool true]) [] :=
  SC_of_run cfgOK (its := [.res (.s (.v .bool true)) [] [] [], .res (.s (.v (.pr .str .str) c2)) [] [] [], .res (.s (.own t_int (.int .i64) c3)) [] [] [9]])
    (ps := [SC cfg.P i_spec_prGood [.s (.v (.pr .str .str) a0)] (.s (.v .bool true)) [],
      SC cfg.P i_spec_prReduce [.s (.v (.pr .str .str) a0), .s (.v (.sl (.int .i64)) ([] : List Int))] (.s (.v (.pr .str .str) c2)) [],
      SC cfg.P i_spec_lnNext [.s (.v (.pr .str .str) c2)] (.s (.own t_int (.int .i64) c3)) []]) (by kernel_rfl) ⟨h1, h2, h3, trivial⟩ get_spec_NextLengths (by decide)

theorem spec_NextLengths_p2 (a0 : (ByteArray × ByteArray))
    (h1 : SC cfg.P i_spec_prGood [.s (.v (.pr .str .str) a0)] (.s (.v .bool false)) []) :
    SC cfg.P i_spec_NextLengths [.s (.v (.pr .str .str) a0)] (.tup [.own t_int (.int .i64) ([] : List Int), .v .bool false]) [] :=
  SC_of_run cfgOK (its := [.res (.s (.v .bool false)) [] [] []])
    (ps := [SC cfg.P i_spec_prGood [.s (.v (.pr .str .str) a0)] (.s (.v .bool false)) []]) (by kernel_rfl) ⟨h1, trivial⟩ get_spec_NextLengths (by decide)

/-! ### impl_NextLengths -/


def impl_NextLengths_L0a (x16 : (List Int)) (x17 : Int) (xo4 : (Tr × Tr)) (xo6 : (List Int)) : St := mkSt 30 [(4, .s (.adr 4 none)), (6, .s (.osl 6 0)), (16, .s (.v (.arr 2 (.int .i64)) x16)), (17, .s (.v (.int .i64) x17))] [(4, .box (.pr .tree .tree) xo4 false), (6, .row t_int (.int .i64) xo6 0 false)]

def impl_NextLengths_L0X1 (y16 : (List Int)) (y17 : Int) (y18 : Bool) (yo4 : (Tr × Tr)) (yo6 : (List Int)) : St := mkSt 30 [(4, .s (.adr 4 none)), (6, .s (.osl 6 0)), (16, .s (.v (.arr 2 (.int .i64)) y16)), (17, .s (.v (.int .i64) y17)), (18, .s (.v .bool y18))] [(4, .box (.pr .tree .tree) yo4 false), (6, .row t_int (.int .i64) yo6 0 false)]

theorem impl_NextLengths_L0a_i1 (x16 : (List Int)) (x17 : Int) (xo4 : (Tr × Tr)) (xo6 : (List Int)) (dc1 : (Tr × Tr)) (dc2 : (Tr × Tr)) (dc3 : Int)
    (h1 : x17 < (4 : Int))
    (h2 : 0 ≤ x17)
    (h3 : x17 < ((4 : Nat) : Int))
    (h4 : SC cfg.P i_impl_letter [.s (.v (.int .i64) (List.getD x16 (x17).toNat (0 : Int)))] (.s (.v (.pr .tree .tree) dc1)) [])
    (h5 : SC cfg.P i_impl_pair_times [.s (.v (.pr .tree .tree) xo4), .s (.v (.pr .tree .tree) dc1)] (.s (.v (.pr .tree .tree) dc2)) [])
    (h6 : SC cfg.P i_impl_pair_length [.s (.v (.pr .tree .tree) dc2)] (.s (.v (.int .i64) dc3)) [])
    (h7 : sizeOK (List.length xo6 + List.length ([dc3] : List Int)))
    {e : AEx} {st : St} (next : LoopSC cfg.P 1 (lb P_impl_NextLengths 0) (impl_NextLengths_L0a x16 (IntKind.wrap .i64 (x17 + (1 : Int))) xo4 (xo6 ++ ([dc3] : List Int))) e st) :
    LoopSC cfg.P 1 (lb P_impl_NextLengths 0) (impl_NextLengths_L0a x16 x17 xo4 xo6) e st :=
  loop_iter cfgOK (f := i_impl_NextLengths) (its := [.bool true, .res (.s (.v (.pr .tree .tree) dc1)) [] [] [], .res (.s (.v (.pr .tree .tree) dc2)) [] [] [], .res (.s (.v (.int .i64) dc3)) [] [] []])
    (ps := [decide (x17 < (4 : Int)) = true,
      0 ≤ x17,
      x17 < ((4 : Nat) : Int),
      SC cfg.P i_impl_letter [.s (.v (.int .i64) (List.getD x16 (x17).toNat (0 : Int)))] (.s (.v (.pr .tree .tree) dc1)) [],
      SC cfg.P i_impl_pair_times [.s (.v (.pr .tree .tree) xo4), .s (.v (.pr .tree .tree) dc1)] (.s (.v (.pr .tree .tree) dc2)) [],
      SC cfg.P i_impl_pair_length [.s (.v (.pr .tree .tree) dc2)] (.s (.v (.int .i64) dc3)) [],
      sizeOK (List.length xo6 + List.length ([dc3] : List Int))]) (st1 := impl_NextLengths_L0a x16 (IntKind.wrap .i64 (x17 + (1 : Int))) xo4 (xo6 ++ ([dc3] : List Int))) (by kernel_rfl) ⟨(decide_eq_true h1), h2, h3, h4, h5, h6, h7, trivial⟩ next

theorem impl_NextLengths_L0a_x2 (x16 : (List Int)) (x17 : Int) (xo4 : (Tr × Tr)) (xo6 : (List Int))
    (h1 : ¬ (x17 < (4 : Int))) :
    LoopSC cfg.P 1 (lb P_impl_NextLengths 0) (impl_NextLengths_L0a x16 x17 xo4 xo6) (.exit 0) (impl_NextLengths_L0X1 x16 x17 false xo4 xo6) :=
  loop_out cfgOK (f := i_impl_NextLengths) (its := [.bool false])
    (ps := [decide (x17 < (4 : Int)) = false]) (by kernel_rfl) ⟨(decide_eq_false h1), trivial⟩ (fun h => by cases h)

theorem impl_NextLengths_p1 (a0 : (ByteArray × ByteArray)) (c1a : (Tr × Tr)) (c2 : (List Int)) (k1y16 : (List Int)) (k1y17 : Int) (k1y18 : Bool) (k1yo4 : (Tr × Tr)) (k1yo6 : (List Int))
    (h1 : SC cfg.P i_impl_pairOf [.s (.v (.pr .str .str) a0)] (.tup [.v (.pr .tree .tree) c1a, .v .bool true]) [])
    (h2 : SC cfg.P i_impl_letters [] (.s (.v (.arr 2 (.int .i64)) c2)) [])
    (h3 : LoopSC cfg.P 1 (lb P_impl_NextLengths 0) (impl_NextLengths_L0a c2 (0 : Int) c1a ([] : List Int)) (.exit 0) (impl_NextLengths_L0X1 k1y16 k1y17 k1y18 k1yo4 k1yo6)) :
    SC cfg.P i_impl_NextLengths [.s (.v (.pr .str .str) a0)] (.tup [.own t_int (.int .i64) k1yo6, .v .bool true]) [] :=
  SC_of_run cfgOK (its := [.res (.tup [.v (.pr .tree .tree) c1a, .v .bool true]) [] [] [], .res (.s (.v (.arr 2 (.int .i64)) c2)) [] [] [], .loop (fun _ => (.exit 0, impl_NextLengths_L0X1 k1y16 k1y17 k1y18 k1yo4 k1yo6))])
    (ps := [SC cfg.P i_impl_pairOf [.s (.v (.pr .str .str) a0)] (.tup [.v (.pr .tree .tree) c1a, .v .bool true]) [],
      SC cfg.P i_impl_letters [] (.s (.v (.arr 2 (.int .i64)) c2)) [],
      LoopSC cfg.P 1 (lb P_impl_NextLengths 0) (impl_NextLengths_L0a c2 (0 : Int) c1a ([] : List Int)) (.exit 0) (impl_NextLengths_L0X1 k1y16 k1y17 k1y18 k1yo4 k1yo6)]) (by kernel_rfl) ⟨h1, h2, h3, trivial⟩ get_impl_NextLengths (by decide)

theorem impl_NextLengths_p2 (a0 : (ByteArray × ByteArray)) (c1a : (Tr × Tr))
    (h1 : SC cfg.P i_impl_pairOf [.s (.v (.pr .str .str) a0)] (.tup [.v (.pr .tree .tree) c1a, .v .bool false]) []) :
    SC cfg.P i_impl_NextLengths [.s (.v (.pr .str .str) a0)] (.tup [.own t_int (.int .i64) ([] : List Int), .v .bool false]) [] :=
  SC_of_run cfgOK (its := [.res (.tup [.v (.pr .tree .tree) c1a, .v .bool false]) [] [] []])
    (ps := [SC cfg.P i_impl_pairOf [.s (.v (.pr .str .str) a0)] (.tup [.v (.pr .tree .tree) c1a, .v .bool false]) []]) (by kernel_rfl) ⟨h1, trivial⟩ get_impl_NextLengths (by decide)

/-! ### spec_lnNext -/


def spec_lnNext_L0a (x6 : (List Int)) (x7 : Int) (x8 : Int) (xo1 : (ByteArray × ByteArray)) (xo3 : (List Int)) : St := mkSt 22 [(1, .s (.adr 1 none)), (3, .s (.osl 3 0)), (6, .s (.v (.sl (.int .i64)) x6)), (7, .s (.v (.int .i64) x7)), (8, .s (.v (.int .i64) x8))] [(1, .box (.pr .str .str) xo1 false), (3, .row t_int (.int .i64) xo3 0 false)]

def spec_lnNext_L0X1 (y6 : (List Int)) (y7 : Int) (y8 : Int) (y9 : Bool) (yo1 : (ByteArray × ByteArray)) (yo3 : (List Int)) : St := mkSt 22 [(1, .s (.adr 1 none)), (3, .s (.osl 3 0)), (6, .s (.v (.sl (.int .i64)) y6)), (7, .s (.v (.int .i64) y7)), (8, .s (.v (.int .i64) y8)), (9, .s (.v .bool y9))] [(1, .box (.pr .str .str) yo1 false), (3, .row t_int (.int .i64) yo3 0 false)]

theorem spec_lnNext_L0a_i1 (x6 : (List Int)) (x7 : Int) (x8 : Int) (xo1 : (ByteArray × ByteArray)) (xo3 : (List Int)) (dc1 : (ByteArray × ByteArray)) (dc2 : (ByteArray × ByteArray)) (dc3 : Int)
    (h1 : x8 < x7)
    (h2 : 0 ≤ x8)
    (h3 : x8 < (List.length x6 : Int))
    (h4 : SC cfg.P i_spec_wdLetter [.s (.v (.int .i64) (List.getD x6 (x8).toNat (0 : Int)))] (.s (.v (.pr .str .str) dc1)) [])
    (h5 : SC cfg.P i_spec_prTimes [.s (.v (.pr .str .str) xo1), .s (.v (.pr .str .str) dc1)] (.s (.v (.pr .str .str) dc2)) [])
    (h6 : SC cfg.P i_spec_lnOf [.s (.v (.pr .str .str) dc2)] (.s (.v (.int .i64) dc3)) [])
    (h7 : sizeOK (List.length xo3 + List.length ([dc3] : List Int)))
    {e : AEx} {st : St} (next : LoopSC cfg.P 1 (lb P_spec_lnNext 0) (spec_lnNext_L0a x6 x7 (IntKind.wrap .i64 (x8 + (1 : Int))) xo1 (xo3 ++ ([dc3] : List Int))) e st) :
    LoopSC cfg.P 1 (lb P_spec_lnNext 0) (spec_lnNext_L0a x6 x7 x8 xo1 xo3) e st :=
  loop_iter cfgOK (f := i_spec_lnNext) (its := [.bool true, .res (.s (.v (.pr .str .str) dc1)) [] [] [], .res (.s (.v (.pr .str .str) dc2)) [] [] [], .res (.s (.v (.int .i64) dc3)) [] [] []])
    (ps := [decide (x8 < x7) = true,
      0 ≤ x8,
      x8 < (List.length x6 : Int),
      SC cfg.P i_spec_wdLetter [.s (.v (.int .i64) (List.getD x6 (x8).toNat (0 : Int)))] (.s (.v (.pr .str .str) dc1)) [],
      SC cfg.P i_spec_prTimes [.s (.v (.pr .str .str) xo1), .s (.v (.pr .str .str) dc1)] (.s (.v (.pr .str .str) dc2)) [],
      SC cfg.P i_spec_lnOf [.s (.v (.pr .str .str) dc2)] (.s (.v (.int .i64) dc3)) [],
      sizeOK (List.length xo3 + List.length ([dc3] : List Int))]) (st1 := spec_lnNext_L0a x6 x7 (IntKind.wrap .i64 (x8 + (1 : Int))) xo1 (xo3 ++ ([dc3] : List Int))) (by kernel_rfl) ⟨(decide_eq_true h1), h2, h3, h4, h5, h6, h7, trivial⟩ next

theorem spec_lnNext_L0a_x2 (x6 : (List Int)) (x7 : Int) (x8 : Int) (xo1 : (ByteArray × ByteArray)) (xo3 : (List Int))
    (h1 : ¬ (x8 < x7)) :
    LoopSC cfg.P 1 (lb P_spec_lnNext 0) (spec_lnNext_L0a x6 x7 x8 xo1 xo3) (.exit 0) (spec_lnNext_L0X1 x6 x7 x8 false xo1 xo3) :=
  loop_out cfgOK (f := i_spec_lnNext) (its := [.bool false])
    (ps := [decide (x8 < x7) = false]) (by kernel_rfl) ⟨(decide_eq_false h1), trivial⟩ (fun h => by cases h)

theorem spec_lnNext_p1 (a0 : (ByteArray × ByteArray)) (c1 : (List Int)) (k1y6 : (List Int)) (k1y7 : Int) (k1y8 : Int) (k1y9 : Bool) (k1yo1 : (ByteArray × ByteArray)) (k1yo3 : (List Int))
    (h1 : SC cfg.P i_spec_lnLetters [] (.s (.v (.sl (.int .i64)) c1)) [])
    (h2 : LoopSC cfg.P 1 (lb P_spec_lnNext 0) (spec_lnNext_L0a c1 ((List.length c1 : Nat) : Int) (0 : Int) a0 ([] : List Int)) (.exit 0) (spec_lnNext_L0X1 k1y6 k1y7 k1y8 k1y9 k1yo1 k1yo3)) :
    SC cfg.P i_spec_lnNext [.s (.v (.pr .str .str) a0)] (.s (.own t_int (.int .i64) k1yo3)) [] :=
  SC_of_run cfgOK (its := [.res (.s (.v (.sl (.int .i64)) c1)) [] [] [], .loop (fun _ => (.exit 0, spec_lnNext_L0X1 k1y6 k1y7 k1y8 k1y9 k1yo1 k1yo3))])
    (ps := [SC cfg.P i_spec_lnLetters [] (.s (.v (.sl (.int .i64)) c1)) [],
      LoopSC cfg.P 1 (lb P_spec_lnNext 0) (spec_lnNext_L0a c1 ((List.length c1 : Nat) : Int) (0 : Int) a0 ([] : List Int)) (.exit 0) (spec_lnNext_L0X1 k1y6 k1y7 k1y8 k1y9 k1yo1 k1yo3)]) (by kernel_rfl) ⟨h1, h2, trivial⟩ get_spec_lnNext (by decide)

end Go.AI
