/- A part of the road: what it proves stands in its last texts. -/
import Derived.Test.YtlimomnchicfgaaSIds
import Derived.Test.YtlimomnchicfgaaProg
set_option autoImplicit false
set_option maxRecDepth 100000
set_option linter.unusedVariables false
namespace Go.AI
open Go.Proofs

/-! ### laws_FnExactShortestWord -/


theorem laws_FnExactShortestWord_p1 (a0 : (ByteArray × ByteArray)) (c1 : Int)
    (h1 : SC cfg.P i_laws_szPair [.s (.v (.pr .str .str) a0), .s (.v (.int .i64) (1048576 : Int))] (.s (.v (.int .i64) c1)) [])
    (h2 : c1 < (0 : Int)) :
    SC cfg.P i_laws_FnExactShortestWord [.s (.v (.pr .str .str) a0)] (.s (.v .bool true)) [] :=
  SC_of_run cfgOK (its := [.res (.s (.v (.int .i64) c1)) [] [] [], .bool true])
    (ps := [SC cfg.P i_laws_szPair [.s (.v (.pr .str .str) a0), .s (.v (.int .i64) (1048576 : Int))] (.s (.v (.int .i64) c1)) [],
      decide (c1 < (0 : Int)) = true]) (by kernel_rfl) ⟨h1, (decide_eq_true h2), trivial⟩ get_laws_FnExactShortestWord (by decide)

theorem laws_FnExactShortestWord_p2 (a0 : (ByteArray × ByteArray)) (c1 : Int) (c2 : (ByteArray × ByteArray)) (c3a : (List Int)) (c3b : Bool) (c4 : (ByteArray × ByteArray)) (c5a : (List Int)) (c5b : Bool) (c7 : Int) (c7o0 : (List Int)) (c8 : Int) (c9 : (ByteArray × ByteArray)) (c10a : (List Int)) (c10b : Bool) (c12 : Int)
    (h1 : SC cfg.P i_laws_szPair [.s (.v (.pr .str .str) a0), .s (.v (.int .i64) (1048576 : Int))] (.s (.v (.int .i64) c1)) [])
    (h2 : ¬ (c1 < (0 : Int)))
    (h3 : SC cfg.P i_laws_toPair [.s (.v (.pr .str .str) a0)] (.s (.v (.pr .str .str) c2)) [])
    (h4 : SC cfg.P i_spec_ShortestWord [.s (.v (.pr .str .str) c2)] (.tup [.own t_int (.int .i64) c3a, .v .bool c3b]) [])
    (h5 : SC cfg.P i_laws_toPair [.s (.v (.pr .str .str) a0)] (.s (.v (.pr .str .str) c4)) [])
    (h6 : SC cfg.P i_impl_ShortestWord [.s (.v (.pr .str .str) c4)] (.tup [.own t_int (.int .i64) c5a, .v .bool c5b]) [])
    (h7 : SC cfg.P i_laws_eqIntS [.s (.v (.sl (.int .i64)) c5a), .s (.v (.sl (.int .i64)) c3a)] (.s (.v .bool true)) [])
    (h8 : (!(c5b == c3b)) = false)
    (h9 : SC cfg.P i_laws_markIntS [.s (.msl t_int (.int .i64) c5a), .s (.v (.int .i64) (1 : Int))] (.s (.v (.int .i64) c7)) [.row t_int (.int .i64) c7o0])
    (h10 : SC cfg.P i_laws_heldIntS [.s (.v (.sl (.int .i64)) c7o0), .s (.v (.int .i64) (1 : Int))] (.s (.v (.int .i64) c8)) [])
    (h11 : ¬ (c8 < (0 : Int)))
    (h12 : c8 = c7)
    (h13 : SC cfg.P i_laws_toPair [.s (.v (.pr .str .str) a0)] (.s (.v (.pr .str .str) c9)) [])
    (h14 : SC cfg.P i_impl_ShortestWord [.s (.v (.pr .str .str) c9)] (.tup [.own t_int (.int .i64) c10a, .v .bool c10b]) [])
    (h15 : SC cfg.P i_laws_eqIntS [.s (.v (.sl (.int .i64)) c10a), .s (.v (.sl (.int .i64)) c3a)] (.s (.v .bool true)) [])
    (h16 : (!(c10b == c3b)) = false)
    (h17 : SC cfg.P i_laws_heldIntS [.s (.v (.sl (.int .i64)) c7o0), .s (.v (.int .i64) (1 : Int))] (.s (.v (.int .i64) c12)) [])
    (h18 : ¬ (c12 < (0 : Int)))
    (h19 : c12 = c7) :
    SC cfg.P i_laws_FnExactShortestWord [.s (.v (.pr .str .str) a0)] (.s (.v .bool true)) [] :=
  SC_of_run cfgOK (its := [.res (.s (.v (.int .i64) c1)) [] [] [], .bool false, .res (.s (.v (.pr .str .str) c2)) [] [] [], .res (.tup [.own t_int (.int .i64) c3a, .v .bool c3b]) [] [] [20], .res (.s (.v (.pr .str .str) c4)) [] [] [], .res (.tup [.own t_int (.int .i64) c5a, .v .bool c5b]) [] [] [26], .res (.s (.v .bool true)) [] [] [], .bool false, .res (.s (.v (.int .i64) c7)) [.row t_int (.int .i64) c7o0] [0] [], .res (.s (.v (.int .i64) c8)) [] [] [], .bool false, .bool false, .res (.s (.v (.pr .str .str) c9)) [] [] [], .res (.tup [.own t_int (.int .i64) c10a, .v .bool c10b]) [] [] [52], .res (.s (.v .bool true)) [] [] [], .bool false, .res (.s (.v (.int .i64) c12)) [] [] [], .bool false, .bool false])
    (ps := [SC cfg.P i_laws_szPair [.s (.v (.pr .str .str) a0), .s (.v (.int .i64) (1048576 : Int))] (.s (.v (.int .i64) c1)) [],
      decide (c1 < (0 : Int)) = false,
      SC cfg.P i_laws_toPair [.s (.v (.pr .str .str) a0)] (.s (.v (.pr .str .str) c2)) [],
      SC cfg.P i_spec_ShortestWord [.s (.v (.pr .str .str) c2)] (.tup [.own t_int (.int .i64) c3a, .v .bool c3b]) [],
      SC cfg.P i_laws_toPair [.s (.v (.pr .str .str) a0)] (.s (.v (.pr .str .str) c4)) [],
      SC cfg.P i_impl_ShortestWord [.s (.v (.pr .str .str) c4)] (.tup [.own t_int (.int .i64) c5a, .v .bool c5b]) [],
      SC cfg.P i_laws_eqIntS [.s (.v (.sl (.int .i64)) c5a), .s (.v (.sl (.int .i64)) c3a)] (.s (.v .bool true)) [],
      (!(c5b == c3b)) = false,
      SC cfg.P i_laws_markIntS [.s (.msl t_int (.int .i64) c5a), .s (.v (.int .i64) (1 : Int))] (.s (.v (.int .i64) c7)) [.row t_int (.int .i64) c7o0],
      SC cfg.P i_laws_heldIntS [.s (.v (.sl (.int .i64)) c7o0), .s (.v (.int .i64) (1 : Int))] (.s (.v (.int .i64) c8)) [],
      decide (c8 < (0 : Int)) = false,
      (c8 != c7) = false,
      SC cfg.P i_laws_toPair [.s (.v (.pr .str .str) a0)] (.s (.v (.pr .str .str) c9)) [],
      SC cfg.P i_impl_ShortestWord [.s (.v (.pr .str .str) c9)] (.tup [.own t_int (.int .i64) c10a, .v .bool c10b]) [],
      SC cfg.P i_laws_eqIntS [.s (.v (.sl (.int .i64)) c10a), .s (.v (.sl (.int .i64)) c3a)] (.s (.v .bool true)) [],
      (!(c10b == c3b)) = false,
      SC cfg.P i_laws_heldIntS [.s (.v (.sl (.int .i64)) c7o0), .s (.v (.int .i64) (1 : Int))] (.s (.v (.int .i64) c12)) [],
      decide (c12 < (0 : Int)) = false,
      (c12 != c7) = false]) (by kernel_rfl) ⟨h1, (decide_eq_false h2), h3, h4, h5, h6, h7, h8, h9, h10, (decide_eq_false h11), (bne_f h12), h13, h14, h15, h16, h17, (decide_eq_false h18), (bne_f h19), trivial⟩ get_laws_FnExactShortestWord (by decide)

/-! ### spec_ShortestWord -/


def spec_ShortestWord_L0a (x5 : Int) (xo1 : (ByteArray × ByteArray)) (xo4 : (List Int)) : St := mkSt 42 [(1, .s (.adr 1 none)), (4, .s (.osl 4 0)), (5, .s (.v (.int .i64) x5))] [(1, .box (.pr .str .str) xo1 false), (4, .row t_int (.int .i64) xo4 0 false)]

def spec_ShortestWord_L1a (x5 : Int) (x20 : (List Int)) (x21 : Int) (x22 : Int) (xo1 : (ByteArray × ByteArray)) (xo4 : (List Int)) : St := mkSt 42 [(1, .s (.adr 1 none)), (4, .s (.osl 4 0)), (5, .s (.v (.int .i64) x5)), (20, .s (.v (.sl (.int .i64)) x20)), (21, .s (.v (.int .i64) x21)), (22, .s (.v (.int .i64) x22))] [(1, .box (.pr .str .str) xo1 false), (4, .row t_int (.int .i64) xo4 0 false)]

def spec_ShortestWord_L1X1 (y5 : Int) (yo1 : (ByteArray × ByteArray)) (yo4 : (List Int)) : St := mkSt 42 [(1, .s (.adr 1 none)), (4, .s (.osl 4 0)), (5, .s (.v (.int .i64) y5))] [(1, .box (.pr .str .str) yo1 false), (4, .row t_int (.int .i64) yo4 0 false)]

def spec_ShortestWord_L1X2 (y5 : Int) (y20 : (List Int)) (y21 : Int) (y22 : Int) (y23 : Bool) (yo1 : (ByteArray × ByteArray)) (yo4 : (List Int)) : St := mkSt 42 [(1, .s (.adr 1 none)), (4, .s (.osl 4 0)), (5, .s (.v (.int .i64) y5)), (20, .s (.v (.sl (.int .i64)) y20)), (21, .s (.v (.int .i64) y21)), (22, .s (.v (.int .i64) y22)), (23, .s (.v .bool y23))] [(1, .box (.pr .str .str) yo1 false), (4, .row t_int (.int .i64) yo4 0 false)]

def spec_ShortestWord_L0X1 (y5 : Int) (y17 : Bool) (yo1 : (ByteArray × ByteArray)) (yo4 : (List Int)) : St := mkSt 42 [(1, .s (.adr 1 none)), (4, .s (.osl 4 0)), (5, .s (.v (.int .i64) y5)), (17, .s (.v .bool y17))] [(1, .box (.pr .str .str) yo1 false), (4, .row t_int (.int .i64) yo4 0 false)]

theorem spec_ShortestWord_L0a_i1 (x5 : Int) (xo1 : (ByteArray × ByteArray)) (xo4 : (List Int)) (dc1 : (List Int)) (dk1y5 : Int) (dk1yo1 : (ByteArray × ByteArray)) (dk1yo4 : (List Int))
    (h1 : x5 > (0 : Int))
    (h2 : SC cfg.P i_spec_lnLetters [] (.s (.v (.sl (.int .i64)) dc1)) [])
    (h3 : LoopSC cfg.P 1 (lb P_spec_ShortestWord 1) (spec_ShortestWord_L1a x5 dc1 ((List.length dc1 : Nat) : Int) (0 : Int) xo1 xo4) (.exit 2) (spec_ShortestWord_L1X1 dk1y5 dk1yo1 dk1yo4))
    {e : AEx} {st : St} (next : LoopSC cfg.P 1 (lb P_spec_ShortestWord 0) (spec_ShortestWord_L0a (IntKind.wrap .i64 (dk1y5 - (1 : Int))) dk1yo1 dk1yo4) e st) :
    LoopSC cfg.P 1 (lb P_spec_ShortestWord 0) (spec_ShortestWord_L0a x5 xo1 xo4) e st :=
  loop_iter cfgOK (f := i_spec_ShortestWord) (its := [.bool true, .res (.s (.v (.sl (.int .i64)) dc1)) [] [] [], .loop (fun _ => (.exit 2, spec_ShortestWord_L1X1 dk1y5 dk1yo1 dk1yo4))])
    (ps := [decide (x5 > (0 : Int)) = true,
      SC cfg.P i_spec_lnLetters [] (.s (.v (.sl (.int .i64)) dc1)) [],
      LoopSC cfg.P 1 (lb P_spec_ShortestWord 1) (spec_ShortestWord_L1a x5 dc1 ((List.length dc1 : Nat) : Int) (0 : Int) xo1 xo4) (.exit 2) (spec_ShortestWord_L1X1 dk1y5 dk1yo1 dk1yo4)]) (st1 := spec_ShortestWord_L0a (IntKind.wrap .i64 (dk1y5 - (1 : Int))) dk1yo1 dk1yo4) (by kernel_rfl) ⟨(decide_eq_true h1), h2, h3, trivial⟩ next

theorem spec_ShortestWord_L0a_i2 (x5 : Int) (xo1 : (ByteArray × ByteArray)) (xo4 : (List Int)) (dc1 : (List Int)) (dk1y5 : Int) (dk1y20 : (List Int)) (dk1y21 : Int) (dk1y22 : Int) (dk1y23 : Bool) (dk1yo1 : (ByteArray × ByteArray)) (dk1yo4 : (List Int))
    (h1 : x5 > (0 : Int))
    (h2 : SC cfg.P i_spec_lnLetters [] (.s (.v (.sl (.int .i64)) dc1)) [])
    (h3 : LoopSC cfg.P 1 (lb P_spec_ShortestWord 1) (spec_ShortestWord_L1a x5 dc1 ((List.length dc1 : Nat) : Int) (0 : Int) xo1 xo4) (.exit 2) (spec_ShortestWord_L1X2 dk1y5 dk1y20 dk1y21 dk1y22 dk1y23 dk1yo1 dk1yo4))
    {e : AEx} {st : St} (next : LoopSC cfg.P 1 (lb P_spec_ShortestWord 0) (spec_ShortestWord_L0a (IntKind.wrap .i64 (dk1y5 - (1 : Int))) dk1yo1 dk1yo4) e st) :
    LoopSC cfg.P 1 (lb P_spec_ShortestWord 0) (spec_ShortestWord_L0a x5 xo1 xo4) e st :=
  loop_iter cfgOK (f := i_spec_ShortestWord) (its := [.bool true, .res (.s (.v (.sl (.int .i64)) dc1)) [] [] [], .loop (fun _ => (.exit 2, spec_ShortestWord_L1X2 dk1y5 dk1y20 dk1y21 dk1y22 dk1y23 dk1yo1 dk1yo4))])
    (ps := [decide (x5 > (0 : Int)) = true,
      SC cfg.P i_spec_lnLetters [] (.s (.v (.sl (.int .i64)) dc1)) [],
      LoopSC cfg.P 1 (lb P_spec_ShortestWord 1) (spec_ShortestWord_L1a x5 dc1 ((List.length dc1 : Nat) : Int) (0 : Int) xo1 xo4) (.exit 2) (spec_ShortestWord_L1X2 dk1y5 dk1y20 dk1y21 dk1y22 dk1y23 dk1yo1 dk1yo4)]) (st1 := spec_ShortestWord_L0a (IntKind.wrap .i64 (dk1y5 - (1 : Int))) dk1yo1 dk1yo4) (by kernel_rfl) ⟨(decide_eq_true h1), h2, h3, trivial⟩ next

theorem spec_ShortestWord_L0a_x3 (x5 : Int) (xo1 : (ByteArray × ByteArray)) (xo4 : (List Int))
    (h1 : ¬ (x5 > (0 : Int))) :
    LoopSC cfg.P 1 (lb P_spec_ShortestWord 0) (spec_ShortestWord_L0a x5 xo1 xo4) (.exit 0) (spec_ShortestWord_L0X1 x5 false xo1 xo4) :=
  loop_out cfgOK (f := i_spec_ShortestWord) (its := [.bool false])
    (ps := [decide (x5 > (0 : Int)) = false]) (by kernel_rfl) ⟨(decide_eq_false h1), trivial⟩ (fun h => by cases h)

theorem spec_ShortestWord_L1a_x1 (x5 : Int) (x20 : (List Int)) (x21 : Int) (x22 : Int) (xo1 : (ByteArray × ByteArray)) (xo4 : (List Int)) (dc1 : (ByteArray × ByteArray)) (dc2 : (ByteArray × ByteArray)) (dc3 : Int)
    (h1 : x22 < x21)
    (h2 : 0 ≤ x22)
    (h3 : x22 < (List.length x20 : Int))
    (h4 : SC cfg.P i_spec_wdLetter [.s (.v (.int .i64) (IntKind.wrap .i64 (0 - (List.getD x20 (x22).toNat (0 : Int)))))] (.s (.v (.pr .str .str) dc1)) [])
    (h5 : SC cfg.P i_spec_prTimes [.s (.v (.pr .str .str) dc1), .s (.v (.pr .str .str) xo1)] (.s (.v (.pr .str .str) dc2)) [])
    (h6 : SC cfg.P i_spec_lnOf [.s (.v (.pr .str .str) dc2)] (.s (.v (.int .i64) dc3)) [])
    (h7 : dc3 < x5)
    (h8 : sizeOK (List.length xo4 + List.length ([(List.getD x20 (x22).toNat (0 : Int))] : List Int))) :
    LoopSC cfg.P 1 (lb P_spec_ShortestWord 1) (spec_ShortestWord_L1a x5 x20 x21 x22 xo1 xo4) (.exit 2) (spec_ShortestWord_L1X1 x5 dc2 (xo4 ++ ([(List.getD x20 (x22).toNat (0 : Int))] : List Int))) :=
  loop_out cfgOK (f := i_spec_ShortestWord) (its := [.bool true, .res (.s (.v (.pr .str .str) dc1)) [] [] [], .res (.s (.v (.pr .str .str) dc2)) [] [] [], .res (.s (.v (.int .i64) dc3)) [] [] [], .bool true])
    (ps := [decide (x22 < x21) = true,
      0 ≤ x22,
      x22 < (List.length x20 : Int),
      SC cfg.P i_spec_wdLetter [.s (.v (.int .i64) (IntKind.wrap .i64 (0 - (List.getD x20 (x22).toNat (0 : Int)))))] (.s (.v (.pr .str .str) dc1)) [],
      SC cfg.P i_spec_prTimes [.s (.v (.pr .str .str) dc1), .s (.v (.pr .str .str) xo1)] (.s (.v (.pr .str .str) dc2)) [],
      SC cfg.P i_spec_lnOf [.s (.v (.pr .str .str) dc2)] (.s (.v (.int .i64) dc3)) [],
      decide (dc3 < x5) = true,
      sizeOK (List.length xo4 + List.length ([(List.getD x20 (x22).toNat (0 : Int))] : List Int))]) (by kernel_rfl) ⟨(decide_eq_true h1), h2, h3, h4, h5, h6, (decide_eq_true h7), h8, trivial⟩ (fun h => by cases h)

theorem spec_ShortestWord_L1a_i2 (x5 : Int) (x20 : (List Int)) (x21 : Int) (x22 : Int) (xo1 : (ByteArray × ByteArray)) (xo4 : (List Int)) (dc1 : (ByteArray × ByteArray)) (dc2 : (ByteArray × ByteArray)) (dc3 : Int)
    (h1 : x22 < x21)
    (h2 : 0 ≤ x22)
    (h3 : x22 < (List.length x20 : Int))
    (h4 : SC cfg.P i_spec_wdLetter [.s (.v (.int .i64) (IntKind.wrap .i64 (0 - (List.getD x20 (x22).toNat (0 : Int)))))] (.s (.v (.pr .str .str) dc1)) [])
    (h5 : SC cfg.P i_spec_prTimes [.s (.v (.pr .str .str) dc1), .s (.v (.pr .str .str) xo1)] (.s (.v (.pr .str .str) dc2)) [])
    (h6 : SC cfg.P i_spec_lnOf [.s (.v (.pr .str .str) dc2)] (.s (.v (.int .i64) dc3)) [])
    (h7 : ¬ (dc3 < x5))
    {e : AEx} {st : St} (next : LoopSC cfg.P 1 (lb P_spec_ShortestWord 1) (spec_ShortestWord_L1a x5 x20 x21 (IntKind.wrap .i64 (x22 + (1 : Int))) xo1 xo4) e st) :
    LoopSC cfg.P 1 (lb P_spec_ShortestWord 1) (spec_ShortestWord_L1a x5 x20 x21 x22 xo1 xo4) e st :=
  loop_iter cfgOK (f := i_spec_ShortestWord) (its := [.bool true, .res (.s (.v (.pr .str .str) dc1)) [] [] [], .res (.s (.v (.pr .str .str) dc2)) [] [] [], .res (.s (.v (.int .i64) dc3)) [] [] [], .bool false])
    (ps := [decide (x22 < x21) = true,
      0 ≤ x22,
      x22 < (List.length x20 : Int),
      SC cfg.P i_spec_wdLetter [.s (.v (.int .i64) (IntKind.wrap .i64 (0 - (List.getD x20 (x22).toNat (0 : Int)))))] (.s (.v (.pr .str .str) dc1)) [],
      SC cfg.P i_spec_prTimes [.s (.v (.pr .str .str) dc1), .s (.v (.pr .str .str) xo1)] (.s (.v (.pr .str .str) dc2)) [],
      SC cfg.P i_spec_lnOf [.s (.v (.pr .str .str) dc2)] (.s (.v (.int .i64) dc3)) [],
      decide (dc3 < x5) = false]) (st1 := spec_ShortestWord_L1a x5 x20 x21 (IntKind.wrap .i64 (x22 + (1 : Int))) xo1 xo4) (by kernel_rfl) ⟨(decide_eq_true h1), h2, h3, h4, h5, h6, (decide_eq_false h7), trivial⟩ next

theorem spec_ShortestWord_L1a_x3 (x5 : Int) (x20 : (List Int)) (x21 : Int) (x22 : Int) (xo1 : (ByteArray × ByteArray)) (xo4 : (List Int))
    (h1 : ¬ (x22 < x21)) :
    LoopSC cfg.P 1 (lb P_spec_ShortestWord 1) (spec_ShortestWord_L1a x5 x20 x21 x22 xo1 xo4) (.exit 2) (spec_ShortestWord_L1X2 x5 x20 x21 x22 false xo1 xo4) :=
  loop_out cfgOK (f := i_spec_ShortestWord) (its := [.bool false])
    (ps := [decide (x22 < x21) = false]) (by kernel_rfl) ⟨(decide_eq_false h1), trivial⟩ (fun h => by cases h)

theorem spec_ShortestWord_p1 (a0 : (ByteArray × ByteArray)) (c2 : (ByteArray × ByteArray)) (c3 : Int) (k1y5 : Int) (k1y17 : Bool) (k1yo1 : (ByteArray × ByteArray)) (k1yo4 : (List Int))
    (h1 : SC cfg.P i_spec_prGood [.s (.v (.pr .str .str) a0)] (.s (.v .bool true)) [])
    (h2 : SC cfg.P i_spec_prReduce [.s (.v (.pr .str .str) a0), .s (.v (.sl (.int .i64)) ([] : List Int))] (.s (.v (.pr .str .str) c2)) [])
    (h3 : SC cfg.P i_spec_lnOf [.s (.v (.pr .str .str) c2)] (.s (.v (.int .i64) c3)) [])
    (h4 : LoopSC cfg.P 1 (lb P_spec_ShortestWord 0) (spec_ShortestWord_L0a c3 c2 ([] : List Int)) (.exit 0) (spec_ShortestWord_L0X1 k1y5 k1y17 k1yo1 k1yo4)) :
    SC cfg.P i_spec_ShortestWord [.s (.v (.pr .str .str) a0)] (.tup [.own t_int (.int .i64) k1yo4, .v .bool true]) [] :=
  SC_of_run cfgOK (its := [.res (.s (.v .bool true)) [] [] [], .res (.s (.v (.pr .str .str) c2)) [] [] [], .res (.s (.v (.int .i64) c3)) [] [] [], .loop (fun _ => (.exit 0, spec_ShortestWord_L0X1 k1y5 k1y17 k1yo1 k1yo4))])
    (ps := [SC cfg.P i_spec_prGood [.s (.v (.pr .str .str) a0)] (.s (.v .bool true)) [],
      SC cfg.P i_spec_prReduce [.s (.v (.pr .str .str) a0), .s (.v (.sl (.int .i64)) ([] : List Int))] (.s (.v (.pr .str .str) c2)) [],
      SC cfg.P i_spec_lnOf [.s (.v (.pr .str .str) c2)] (.s (.v (.int .i64) c3)) [],
      LoopSC cfg.P 1 (lb P_spec_ShortestWord 0) (spec_ShortestWord_L0a c3 c2 ([] : List Int)) (.exit 0) (spec_ShortestWord_L0X1 k1y5 k1y17 k1yo1 k1yo4)]) (by kernel_rfl) ⟨h1, h2, h3, h4, trivial⟩ get_spec_ShortestWord (by decide)

theorem spec_ShortestWord_p2 (a0 : (ByteArray × ByteArray))
    (h1 : SC cfg.P i_spec_prGood [.s (.v (.pr .str .str) a0)] (.s (.v .bool false)) []) :
    SC cfg.P i_spec_ShortestWord [.s (.v (.pr .str .str) a0)] (.tup [.own t_int (.int .i64) ([] : List Int), .v .bool false]) [] :=
  SC_of_run cfgOK (its := [.res (.s (.v .bool false)) [] [] []])
    (ps := [SC cfg.P i_spec_prGood [.s (.v (.pr .str .str) a0)] (.s (.v .bool false)) []]) (by kernel_rfl) ⟨h1, trivial⟩ get_spec_ShortestWord (by decide)

/-! ### impl_ShortestWord -/


def impl_ShortestWord_L0a (x7 : Int) (xo4 : (Tr × Tr)) (xo6 : (List Int)) : St := mkSt 45 [(4, .s (.adr 4 none)), (6, .s (.osl 6 0)), (7, .s (.v (.int .i64) x7))] [(4, .box (.pr .tree .tree) xo4 false), (6, .row t_int (.int .i64) xo6 0 false)]

def impl_ShortestWord_L1a (x7 : Int) (x24 : (List Int)) (x25 : Int) (xo4 : (Tr × Tr)) (xo6 : (List Int)) : St := mkSt 45 [(4, .s (.adr 4 none)), (6, .s (.osl 6 0)), (7, .s (.v (.int .i64) x7)), (24, .s (.v (.arr 2 (.int .i64)) x24)), (25, .s (.v (.int .i64) x25))] [(4, .box (.pr .tree .tree) xo4 false), (6, .row t_int (.int .i64) xo6 0 false)]

def impl_ShortestWord_L1X1 (y7 : Int) (yo4 : (Tr × Tr)) (yo6 : (List Int)) : St := mkSt 45 [(4, .s (.adr 4 none)), (6, .s (.osl 6 0)), (7, .s (.v (.int .i64) y7))] [(4, .box (.pr .tree .tree) yo4 false), (6, .row t_int (.int .i64) yo6 0 false)]

def impl_ShortestWord_L1X2 (y7 : Int) (y24 : (List Int)) (y25 : Int) (y26 : Bool) (yo4 : (Tr × Tr)) (yo6 : (List Int)) : St := mkSt 45 [(4, .s (.adr 4 none)), (6, .s (.osl 6 0)), (7, .s (.v (.int .i64) y7)), (24, .s (.v (.arr 2 (.int .i64)) y24)), (25, .s (.v (.int .i64) y25)), (26, .s (.v .bool y26))] [(4, .box (.pr .tree .tree) yo4 false), (6, .row t_int (.int .i64) yo6 0 false)]

def impl_ShortestWord_L0X1 (y7 : Int) (y21 : Bool) (yo4 : (Tr × Tr)) (yo6 : (List Int)) : St := mkSt 45 [(4, .s (.adr 4 none)), (6, .s (.osl 6 0)), (7, .s (.v (.int .i64) y7)), (21, .s (.v .bool y21))] [(4, .box (.pr .tree .tree) yo4 false), (6, .row t_int (.int .i64) yo6 0 false)]

theorem impl_ShortestWord_L0a_i1 (x7 : Int) (xo4 : (Tr × Tr)) (xo6 : (List Int)) (dc1 : (List Int)) (dk1y7 : Int) (dk1yo4 : (Tr × Tr)) (dk1yo6 : (List Int))
    (h1 : x7 > (0 : Int))
    (h2 : SC cfg.P i_impl_letters [] (.s (.v (.arr 2 (.int .i64)) dc1)) [])
    (h3 : LoopSC cfg.P 1 (lb P_impl_ShortestWord 1) (impl_ShortestWord_L1a x7 dc1 (0 : Int) xo4 xo6) (.exit 2) (impl_ShortestWord_L1X1 dk1y7 dk1yo4 dk1yo6))
    {e : AEx} {st : St} (next : LoopSC cfg.P 1 (lb P_impl_ShortestWord 0) (impl_ShortestWord_L0a (IntKind.wrap .i64 (dk1y7 - (1 : Int))) dk1yo4 dk1yo6) e st) :
    LoopSC cfg.P 1 (lb P_impl_ShortestWord 0) (impl_ShortestWord_L0a x7 xo4 xo6) e st :=
  loop_iter cfgOK (f := i_impl_ShortestWord) (its := [.bool true, .res (.s (.v (.arr 2 (.int .i64)) dc1)) [] [] [], .loop (fun _ => (.exit 2, impl_ShortestWord_L1X1 dk1y7 dk1yo4 dk1yo6))])
    (ps := [decide (x7 > (0 : Int)) = true,
      SC cfg.P i_impl_letters [] (.s (.v (.arr 2 (.int .i64)) dc1)) [],
      LoopSC cfg.P 1 (lb P_impl_ShortestWord 1) (impl_ShortestWord_L1a x7 dc1 (0 : Int) xo4 xo6) (.exit 2) (impl_ShortestWord_L1X1 dk1y7 dk1yo4 dk1yo6)]) (st1 := impl_ShortestWord_L0a (IntKind.wrap .i64 (dk1y7 - (1 : Int))) dk1yo4 dk1yo6) (by kernel_rfl) ⟨(decide_eq_true h1), h2, h3, trivial⟩ next

theorem impl_ShortestWord_L0a_i2 (x7 : Int) (xo4 : (Tr × Tr)) (xo6 : (List Int)) (dc1 : (List Int)) (dk1y7 : Int) (dk1y24 : (List Int)) (dk1y25 : Int) (dk1y26 : Bool) (dk1yo4 : (Tr × Tr)) (dk1yo6 : (List Int))
    (h1 : x7 > (0 : Int))
    (h2 : SC cfg.P i_impl_letters [] (.s (.v (.arr 2 (.int .i64)) dc1)) [])
    (h3 : LoopSC cfg.P 1 (lb P_impl_ShortestWord 1) (impl_ShortestWord_L1a x7 dc1 (0 : Int) xo4 xo6) (.exit 2) (impl_ShortestWord_L1X2 dk1y7 dk1y24 dk1y25 dk1y26 dk1yo4 dk1yo6))
    {e : AEx} {st : St} (next : LoopSC cfg.P 1 (lb P_impl_ShortestWord 0) (impl_ShortestWord_L0a (IntKind.wrap .i64 (dk1y7 - (1 : Int))) dk1yo4 dk1yo6) e st) :
    LoopSC cfg.P 1 (lb P_impl_ShortestWord 0) (impl_ShortestWord_L0a x7 xo4 xo6) e st :=
  loop_iter cfgOK (f := i_impl_ShortestWord) (its := [.bool true, .res (.s (.v (.arr 2 (.int .i64)) dc1)) [] [] [], .loop (fun _ => (.exit 2, impl_ShortestWord_L1X2 dk1y7 dk1y24 dk1y25 dk1y26 dk1yo4 dk1yo6))])
    (ps := [decide (x7 > (0 : Int)) = true,
      SC cfg.P i_impl_letters [] (.s (.v (.arr 2 (.int .i64)) dc1)) [],
      LoopSC cfg.P 1 (lb P_impl_ShortestWord 1) (impl_ShortestWord_L1a x7 dc1 (0 : Int) xo4 xo6) (.exit 2) (impl_ShortestWord_L1X2 dk1y7 dk1y24 dk1y25 dk1y26 dk1yo4 dk1yo6)]) (st1 := impl_ShortestWord_L0a (IntKind.wrap .i64 (dk1y7 - (1 : Int))) dk1yo4 dk1yo6) (by kernel_rfl) ⟨(decide_eq_true h1), h2, h3, trivial⟩ next

theorem impl_ShortestWord_L0a_x3 (x7 : Int) (xo4 : (Tr × Tr)) (xo6 : (List Int))
    (h1 : ¬ (x7 > (0 : Int))) :
    LoopSC cfg.P 1 (lb P_impl_ShortestWord 0) (impl_ShortestWord_L0a x7 xo4 xo6) (.exit 0) (impl_ShortestWord_L0X1 x7 false xo4 xo6) :=
  loop_out cfgOK (f := i_impl_ShortestWord) (its := [.bool false])
    (ps := [decide (x7 > (0 : Int)) = false]) (by kernel_rfl) ⟨(decide_eq_false h1), trivial⟩ (fun h => by cases h)

theorem impl_ShortestWord_L1a_x1 (x7 : Int) (x24 : (List Int)) (x25 : Int) (xo4 : (Tr × Tr)) (xo6 : (List Int)) (dc1 : (Tr × Tr)) (dc2 : (Tr × Tr)) (dc3 : Int)
    (h1 : x25 < (4 : Int))
    (h2 : 0 ≤ x25)
    (h3 : x25 < ((4 : Nat) : Int))
    (h4 : SC cfg.P i_impl_letter [.s (.v (.int .i64) (IntKind.wrap .i64 (0 - (List.getD x24 (x25).toNat (0 : Int)))))] (.s (.v (.pr .tree .tree) dc1)) [])
    (h5 : SC cfg.P i_impl_pair_times [.s (.v (.pr .tree .tree) dc1), .s (.v (.pr .tree .tree) xo4)] (.s (.v (.pr .tree .tree) dc2)) [])
    (h6 : SC cfg.P i_impl_pair_length [.s (.v (.pr .tree .tree) dc2)] (.s (.v (.int .i64) dc3)) [])
    (h7 : dc3 = (IntKind.wrap .i64 (x7 - (1 : Int))))
    (h8 : sizeOK (List.length xo6 + List.length ([(List.getD x24 (x25).toNat (0 : Int))] : List Int))) :
    LoopSC cfg.P 1 (lb P_impl_ShortestWord 1) (impl_ShortestWord_L1a x7 x24 x25 xo4 xo6) (.exit 2) (impl_ShortestWord_L1X1 x7 dc2 (xo6 ++ ([(List.getD x24 (x25).toNat (0 : Int))] : List Int))) :=
  loop_out cfgOK (f := i_impl_ShortestWord) (its := [.bool true, .res (.s (.v (.pr .tree .tree) dc1)) [] [] [], .res (.s (.v (.pr .tree .tree) dc2)) [] [] [], .res (.s (.v (.int .i64) dc3)) [] [] [], .bool true])
    (ps := [decide (x25 < (4 : Int)) = true,
      0 ≤ x25,
      x25 < ((4 : Nat) : Int),
      SC cfg.P i_impl_letter [.s (.v (.int .i64) (IntKind.wrap .i64 (0 - (List.getD x24 (x25).toNat (0 : Int)))))] (.s (.v (.pr .tree .tree) dc1)) [],
      SC cfg.P i_impl_pair_times [.s (.v (.pr .tree .tree) dc1), .s (.v (.pr .tree .tree) xo4)] (.s (.v (.pr .tree .tree) dc2)) [],
      SC cfg.P i_impl_pair_length [.s (.v (.pr .tree .tree) dc2)] (.s (.v (.int .i64) dc3)) [],
      (dc3 == (IntKind.wrap .i64 (x7 - (1 : Int)))) = true,
      sizeOK (List.length xo6 + List.length ([(List.getD x24 (x25).toNat (0 : Int))] : List Int))]) (by kernel_rfl) ⟨(decide_eq_true h1), h2, h3, h4, h5, h6, (beq_t h7), h8, trivial⟩ (fun h => by cases h)

theorem impl_ShortestWord_L1a_i2 (x7 : Int) (x24 : (List Int)) (x25 : Int) (xo4 : (Tr × Tr)) (xo6 : (List Int)) (dc1 : (Tr × Tr)) (dc2 : (Tr × Tr)) (dc3 : Int)
    (h1 : x25 < (4 : Int))
    (h2 : 0 ≤ x25)
    (h3 : x25 < ((4 : Nat) : Int))
    (h4 : SC cfg.P i_impl_letter [.s (.v (.int .i64) (IntKind.wrap .i64 (0 - (List.getD x24 (x25).toNat (0 : Int)))))] (.s (.v (.pr .tree .tree) dc1)) [])
    (h5 : SC cfg.P i_impl_pair_times [.s (.v (.pr .tree .tree) dc1), .s (.v (.pr .tree .tree) xo4)] (.s (.v (.pr .tree .tree) dc2)) [])
    (h6 : SC cfg.P i_impl_pair_length [.s (.v (.pr .tree .tree) dc2)] (.s (.v (.int .i64) dc3)) [])
    (h7 : dc3 ≠ (IntKind.wrap .i64 (x7 - (1 : Int))))
    {e : AEx} {st : St} (next : LoopSC cfg.P 1 (lb P_impl_ShortestWord 1) (impl_ShortestWord_L1a x7 x24 (IntKind.wrap .i64 (x25 + (1 : Int))) xo4 xo6) e st) :
    LoopSC cfg.P 1 (lb P_impl_ShortestWord 1) (impl_ShortestWord_L1a x7 x24 x25 xo4 xo6) e st :=
  loop_iter cfgOK (f := i_impl_ShortestWord) (its := [.bool true, .res (.s (.v (.pr .tree .tree) dc1)) [] [] [], .res (.s (.v (.pr .tree .tree) dc2)) [] [] [], .res (.s (.v (.int .i64) dc3)) [] [] [], .bool false])
    (ps := [decide (x25 < (4 : Int)) = true,
      0 ≤ x25,
      x25 < ((4 : Nat) : Int),
      SC cfg.P i_impl_letter [.s (.v (.int .i64) (IntKind.wrap .i64 (0 - (List.getD x24 (x25).toNat (0 : Int)))))] (.s (.v (.pr .tree .tree) dc1)) [],
      SC cfg.P i_impl_pair_times [.s (.v (.pr .tree .tree) dc1), .s (.v (.pr .tree .tree) xo4)] (.s (.v (.pr .tree .tree) dc2)) [],
      SC cfg.P i_impl_pair_length [.s (.v (.pr .tree .tree) dc2)] (.s (.v (.int .i64) dc3)) [],
      (dc3 == (IntKind.wrap .i64 (x7 - (1 : Int)))) = false]) (st1 := impl_ShortestWord_L1a x7 x24 (IntKind.wrap .i64 (x25 + (1 : Int))) xo4 xo6) (by kernel_rfl) ⟨(decide_eq_true h1), h2, h3, h4, h5, h6, (beq_f h7), trivial⟩ next

theorem impl_ShortestWord_L1a_x3 (x7 : Int) (x24 : (List Int)) (x25 : Int) (xo4 : (Tr × Tr)) (xo6 : (List Int))
    (h1 : ¬ (x25 < (4 : Int))) :
    LoopSC cfg.P 1 (lb P_impl_ShortestWord 1) (impl_ShortestWord_L1a x7 x24 x25 xo4 xo6) (.exit 2) (impl_ShortestWord_L1X2 x7 x24 x25 false xo4 xo6) :=
  loop_out cfgOK (f := i_impl_ShortestWord) (its := [.bool false])
    (ps := [decide (x25 < (4 : Int)) = false]) (by kernel_rfl) ⟨(decide_eq_false h1), trivial⟩ (fun h => by cases h)

theorem impl_ShortestWord_p1 (a0 : (ByteArray × ByteArray)) (c1a : (Tr × Tr)) (c2 : Int) (k1y7 : Int) (k1y21 : Bool) (k1yo4 : (Tr × Tr)) (k1yo6 : (List Int))
    (h1 : SC cfg.P i_impl_pairOf [.s (.v (.pr .str .str) a0)] (.tup [.v (.pr .tree .tree) c1a, .v .bool true]) [])
    (h2 : SC cfg.P i_impl_pair_length [.s (.v (.pr .tree .tree) c1a)] (.s (.v (.int .i64) c2)) [])
    (h3 : LoopSC cfg.P 1 (lb P_impl_ShortestWord 0) (impl_ShortestWord_L0a c2 c1a ([] : List Int)) (.exit 0) (impl_ShortestWord_L0X1 k1y7 k1y21 k1yo4 k1yo6)) :
    SC cfg.P i_impl_ShortestWord [.s (.v (.pr .str .str) a0)] (.tup [.own t_int (.int .i64) k1yo6, .v .bool true]) [] :=
  SC_of_run cfgOK (its := [.res (.tup [.v (.pr .tree .tree) c1a, .v .bool true]) [] [] [], .res (.s (.v (.int .i64) c2)) [] [] [], .loop (fun _ => (.exit 0, impl_ShortestWord_L0X1 k1y7 k1y21 k1yo4 k1yo6))])
    (ps := [SC cfg.P i_impl_pairOf [.s (.v (.pr .str .str) a0)] (.tup [.v (.pr .tree .tree) c1a, .v .bool true]) [],
      SC cfg.P i_impl_pair_length [.s (.v (.pr .tree .tree) c1a)] (.s (.v (.int .i64) c2)) [],
      LoopSC cfg.P 1 (lb P_impl_ShortestWord 0) (impl_ShortestWord_L0a c2 c1a ([] : List Int)) (.exit 0) (impl_ShortestWord_L0X1 k1y7 k1y21 k1yo4 k1yo6)]) (by kernel_rfl) ⟨h1, h2, h3, trivial⟩ get_impl_ShortestWord (by decide)

theorem impl_ShortestWord_p2 (a0 : (ByteArray × ByteArray)) (c1a : (Tr × Tr))
    (h1 : SC cfg.P i_impl_pairOf [.s (.v (.pr .str .str) a0)] (.tup [.v (.pr .tree .tree) c1a, .v .bool false]) []) :
    SC cfg.P i_impl_ShortestWord [.s (.v (.pr .str .str) a0)] (.tup [.own t_int (.int .i64) ([] : List Int), .v .bool false]) [] :=
  SC_of_run cfgOK (its := [.res (.tup [.v (.pr .tree .tree) c1a, .v .bool false]) [] [] []])
    (ps := [SC cfg.P i_impl_pairOf [.s (.v (.pr .str .str) a0)] (.tup [.v (.pr .tree .tree) c1a, .v .bool false]) []]) (by kernel_rfl) ⟨h1, trivial⟩ get_impl_ShortestWord (by decide)

end Go.AI
