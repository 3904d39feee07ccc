/- A part of the road: what it proves stands in its last texts. -/
import Derived.Test.YtnnbjnmkkfakdaaSIds
import Derived.Test.YtnnbjnmkkfakdaaProg
set_option autoImplicit false
set_option maxRecDepth 100000
set_option linter.unusedVariables false
namespace Go.AI
open Go.Proofs

/-! ### laws_FnExactPowerPair -/


theorem laws_FnExactPowerPair_p1 (a0 : (ByteArray × ByteArray)) (a1 : Int) (c1 : Int)
    (h1 : SC cfg.P i_laws_szPair [.s (.v (.pr .str .str) a0), .s (.v (.int .i64) (1048576 : Int))] (.s (.v (.int .i64) c1)) [])
    (h2 : c1 < (0 : Int)) :
    SC cfg.P i_laws_FnExactPowerPair [.s (.v (.pr .str .str) a0), .s (.v (.int .i64) a1)] (.s (.v .bool true)) [] :=
  SC_of_run cfgOK (its := [.res (.s (.v (.int .i64) c1)) [] [] [], .bool true])
    (ps := [SC cfg.P i_laws_szPair [.s (.v (.pr .str .str) a0), .s (.v (.int .i64) (1048576 : Int))] (.s (.v (.int .i64) c1)) [],
      decide (c1 < (0 : Int)) = true]) (by kernel_rfl) ⟨h1, (decide_eq_true h2), trivial⟩ get_laws_FnExactPowerPair (by decide)

theorem laws_FnExactPowerPair_p2 (a0 : (ByteArray × ByteArray)) (a1 : Int) (c1 : Int) (c2 : (ByteArray × ByteArray)) (c3a : (ByteArray × ByteArray)) (c3b : Bool) (c4 : (ByteArray × ByteArray)) (c5a : (ByteArray × ByteArray)) (c5b : Bool)
    (h1 : SC cfg.P i_laws_szPair [.s (.v (.pr .str .str) a0), .s (.v (.int .i64) (1048576 : Int))] (.s (.v (.int .i64) c1)) [])
    (h2 : ¬ (c1 < (0 : Int)))
    (h3 : SC cfg.P i_laws_toPair [.s (.v (.pr .str .str) a0)] (.s (.v (.pr .str .str) c2)) [])
    (h4 : SC cfg.P i_spec_PowerPair [.s (.v (.pr .str .str) c2), .s (.v (.int .i64) a1)] (.tup [.v (.pr .str .str) c3a, .v .bool c3b]) [])
    (h5 : SC cfg.P i_laws_toPair [.s (.v (.pr .str .str) a0)] (.s (.v (.pr .str .str) c4)) [])
    (h6 : SC cfg.P i_impl_PowerPair [.s (.v (.pr .str .str) c4), .s (.v (.int .i64) a1)] (.tup [.v (.pr .str .str) c5a, .v .bool c5b]) [])
    (h7 : SC cfg.P i_laws_eqPair [.s (.v (.pr .str .str) c5a), .s (.v (.pr .str .str) c3a)] (.s (.v .bool true)) [])
    (h8 : (!(c5b == c3b)) = false) :
    SC cfg.P i_laws_FnExactPowerPair [.s (.v (.pr .str .str) a0), .s (.v (.int .i64) a1)] (.s (.v .bool true)) [] :=
  SC_of_run cfgOK (its := [.res (.s (.v (.int .i64) c1)) [] [] [], .bool false, .res (.s (.v (.pr .str .str) c2)) [] [] [], .res (.tup [.v (.pr .str .str) c3a, .v .bool c3b]) [] [] [], .res (.s (.v (.pr .str .str) c4)) [] [] [], .res (.tup [.v (.pr .str .str) c5a, .v .bool c5b]) [] [] [], .res (.s (.v .bool true)) [] [] [], .bool false])
    (ps := [SC cfg.P i_laws_szPair [.s (.v (.pr .str .str) a0), .s (.v (.int .i64) (1048576 : Int))] (.s (.v (.int .i64) c1)) [],
      decide (c1 < (0 : Int)) = false,
      SC cfg.P i_laws_toPair [.s (.v (.pr .str .str) a0)] (.s (.v (.pr .str .str) c2)) [],
      SC cfg.P i_spec_PowerPair [.s (.v (.pr .str .str) c2), .s (.v (.int .i64) a1)] (.tup [.v (.pr .str .str) c3a, .v .bool c3b]) [],
      SC cfg.P i_laws_toPair [.s (.v (.pr .str .str) a0)] (.s (.v (.pr .str .str) c4)) [],
      SC cfg.P i_impl_PowerPair [.s (.v (.pr .str .str) c4), .s (.v (.int .i64) a1)] (.tup [.v (.pr .str .str) c5a, .v .bool c5b]) [],
      SC cfg.P i_laws_eqPair [.s (.v (.pr .str .str) c5a), .s (.v (.pr .str .str) c3a)] (.s (.v .bool true)) [],
      (!(c5b == c3b)) = false]) (by kernel_rfl) ⟨h1, (decide_eq_false h2), h3, h4, h5, h6, h7, h8, trivial⟩ get_laws_FnExactPowerPair (by decide)

/-! ### spec_PowerPair -/


def spec_PowerPair_L0a (x1 : Int) (xo2 : (ByteArray × ByteArray)) (xo4 : (ByteArray × ByteArray)) (xo6 : (ByteArray × ByteArray)) : St := mkSt 36 [(1, .s (.v (.int .i64) x1)), (2, .s (.adr 2 none)), (4, .s (.adr 4 none)), (6, .s (.adr 6 none))] [(2, .box (.pr .str .str) xo2 false), (4, .box (.pr .str .str) xo4 false), (6, .box (.pr .str .str) xo6 false)]

def spec_PowerPair_L0X1 (y5 : Bool) (yo4 : (ByteArray × ByteArray)) : St := mkSt 36 [(4, .s (.adr 4 none)), (5, .s (.v .bool y5))] [(4, .box (.pr .str .str) yo4 false)]

def spec_PowerPair_L0X2 (y1 : Int) (y24 : Bool) (yo2 : (ByteArray × ByteArray)) (yo4 : (ByteArray × ByteArray)) (yo6 : (ByteArray × ByteArray)) : St := mkSt 36 [(1, .s (.v (.int .i64) y1)), (2, .s (.adr 2 none)), (4, .s (.adr 4 none)), (6, .s (.adr 6 none)), (24, .s (.v .bool y24))] [(2, .box (.pr .str .str) yo2 false), (4, .box (.pr .str .str) yo4 false), (6, .box (.pr .str .str) yo6 false)]

theorem spec_PowerPair_L0a_x1 (x1 : Int) (xo2 : (ByteArray × ByteArray)) (xo4 : (ByteArray × ByteArray)) (xo6 : (ByteArray × ByteArray)) (dc1 : (ByteArray × ByteArray)) (dc2 : Int)
    (h1 : x1 > (0 : Int))
    (h2 : SC cfg.P i_spec_prTimes [.s (.v (.pr .str .str) xo6), .s (.v (.pr .str .str) xo2)] (.s (.v (.pr .str .str) dc1)) [])
    (h3 : SC cfg.P i_spec_trCarets [.s (.v .str dc1.1)] (.s (.v (.int .i64) dc2)) [])
    (h4 : dc2 > (8 : Int)) :
    LoopSC cfg.P 2 (lb P_spec_PowerPair 0) (spec_PowerPair_L0a x1 xo2 xo4 xo6) (.ret) (spec_PowerPair_L0X1 false ((⟨#[]⟩ : ByteArray), (⟨#[]⟩ : ByteArray))) :=
  loop_out cfgOK (f := i_spec_PowerPair) (its := [.bool true, .res (.s (.v (.pr .str .str) dc1)) [] [] [], .res (.s (.v (.int .i64) dc2)) [] [] [], .bool true])
    (ps := [decide (x1 > (0 : Int)) = true,
      SC cfg.P i_spec_prTimes [.s (.v (.pr .str .str) xo6), .s (.v (.pr .str .str) xo2)] (.s (.v (.pr .str .str) dc1)) [],
      SC cfg.P i_spec_trCarets [.s (.v .str dc1.1)] (.s (.v (.int .i64) dc2)) [],
      decide (dc2 > (8 : Int)) = true]) (by kernel_rfl) ⟨(decide_eq_true h1), h2, h3, (decide_eq_true h4), trivial⟩ (fun h => by cases h)

theorem spec_PowerPair_L0a_i2 (x1 : Int) (xo2 : (ByteArray × ByteArray)) (xo4 : (ByteArray × ByteArray)) (xo6 : (ByteArray × ByteArray)) (dc1 : (ByteArray × ByteArray)) (dc2 : Int)
    (h1 : x1 > (0 : Int))
    (h2 : SC cfg.P i_spec_prTimes [.s (.v (.pr .str .str) xo6), .s (.v (.pr .str .str) xo2)] (.s (.v (.pr .str .str) dc1)) [])
    (h3 : SC cfg.P i_spec_trCarets [.s (.v .str dc1.1)] (.s (.v (.int .i64) dc2)) [])
    (h4 : ¬ (dc2 > (8 : Int)))
    {e : AEx} {st : St} (next : LoopSC cfg.P 2 (lb P_spec_PowerPair 0) (spec_PowerPair_L0a (IntKind.wrap .i64 (x1 - (1 : Int))) xo2 xo4 dc1) e st) :
    LoopSC cfg.P 2 (lb P_spec_PowerPair 0) (spec_PowerPair_L0a x1 xo2 xo4 xo6) e st :=
  loop_iter cfgOK (f := i_spec_PowerPair) (its := [.bool true, .res (.s (.v (.pr .str .str) dc1)) [] [] [], .res (.s (.v (.int .i64) dc2)) [] [] [], .bool false])
    (ps := [decide (x1 > (0 : Int)) = true,
      SC cfg.P i_spec_prTimes [.s (.v (.pr .str .str) xo6), .s (.v (.pr .str .str) xo2)] (.s (.v (.pr .str .str) dc1)) [],
      SC cfg.P i_spec_trCarets [.s (.v .str dc1.1)] (.s (.v (.int .i64) dc2)) [],
      decide (dc2 > (8 : Int)) = false]) (st1 := spec_PowerPair_L0a (IntKind.wrap .i64 (x1 - (1 : Int))) xo2 xo4 dc1) (by kernel_rfl) ⟨(decide_eq_true h1), h2, h3, (decide_eq_false h4), trivial⟩ next

theorem spec_PowerPair_L0a_x3 (x1 : Int) (xo2 : (ByteArray × ByteArray)) (xo4 : (ByteArray × ByteArray)) (xo6 : (ByteArray × ByteArray))
    (h1 : ¬ (x1 > (0 : Int))) :
    LoopSC cfg.P 2 (lb P_spec_PowerPair 0) (spec_PowerPair_L0a x1 xo2 xo4 xo6) (.exit 0) (spec_PowerPair_L0X2 x1 false xo2 xo4 xo6) :=
  loop_out cfgOK (f := i_spec_PowerPair) (its := [.bool false])
    (ps := [decide (x1 > (0 : Int)) = false]) (by kernel_rfl) ⟨(decide_eq_false h1), trivial⟩ (fun h => by cases h)

theorem spec_PowerPair_p1 (a0 : (ByteArray × ByteArray)) (a1 : Int) (c3 : (ByteArray × ByteArray)) (c4 : (ByteArray × ByteArray)) (k1y5 : Bool) (k1yo4 : (ByteArray × ByteArray))
    (h1 : SC cfg.P i_spec_prGood [.s (.v (.pr .str .str) a0)] (.s (.v .bool true)) [])
    (h2 : SC cfg.P i_spec_l1In [.s (.v (.int .i64) a1), .s (.v (.int .i64) (-10 : Int)), .s (.v (.int .i64) (10 : Int))] (.s (.v .bool true)) [])
    (h3 : a1 < (0 : Int))
    (h4 : SC cfg.P i_spec_prInverse [.s (.v (.pr .str .str) a0)] (.s (.v (.pr .str .str) c3)) [])
    (h5 : SC cfg.P i_spec_prUnit [] (.s (.v (.pr .str .str) c4)) [])
    (h6 : LoopSC cfg.P 2 (lb P_spec_PowerPair 0) (spec_PowerPair_L0a (IntKind.wrap .i64 (0 - a1)) c3 ((⟨#[]⟩ : ByteArray), (⟨#[]⟩ : ByteArray)) c4) (.ret) (spec_PowerPair_L0X1 k1y5 k1yo4)) :
    SC cfg.P i_spec_PowerPair [.s (.v (.pr .str .str) a0), .s (.v (.int .i64) a1)] (.tup [.v (.pr .str .str) k1yo4, .v .bool k1y5]) [] :=
  SC_of_run cfgOK (its := [.res (.s (.v .bool true)) [] [] [], .res (.s (.v .bool true)) [] [] [], .bool true, .res (.s (.v (.pr .str .str) c3)) [] [] [], .res (.s (.v (.pr .str .str) c4)) [] [] [], .loop (fun _ => (.ret, spec_PowerPair_L0X1 k1y5 k1yo4))])
    (ps := [SC cfg.P i_spec_prGood [.s (.v (.pr .str .str) a0)] (.s (.v .bool true)) [],
      SC cfg.P i_spec_l1In [.s (.v (.int .i64) a1), .s (.v (.int .i64) (-10 : Int)), .s (.v (.int .i64) (10 : Int))] (.s (.v .bool true)) [],
      decide (a1 < (0 : Int)) = true,
      SC cfg.P i_spec_prInverse [.s (.v (.pr .str .str) a0)] (.s (.v (.pr .str .str) c3)) [],
      SC cfg.P i_spec_prUnit [] (.s (.v (.pr .str .str) c4)) [],
      LoopSC cfg.P 2 (lb P_spec_PowerPair 0) (spec_PowerPair_L0a (IntKind.wrap .i64 (0 - a1)) c3 ((⟨#[]⟩ : ByteArray), (⟨#[]⟩ : ByteArray)) c4) (.ret) (spec_PowerPair_L0X1 k1y5 k1yo4)]) (by kernel_rfl) ⟨h1, h2, (decide_eq_true h3), h4, h5, h6, trivial⟩ get_spec_PowerPair (by decide)

theorem spec_PowerPair_p2 (a0 : (ByteArray × ByteArray)) (a1 : Int) (c3 : (ByteArray × ByteArray)) (c4 : (ByteArray × ByteArray)) (k1y1 : Int) (k1y24 : Bool) (k1yo2 : (ByteArray × ByteArray)) (k1yo4 : (ByteArray × ByteArray)) (k1yo6 : (ByteArray × ByteArray))
    (h1 : SC cfg.P i_spec_prGood [.s (.v (.pr .str .str) a0)] (.s (.v .bool true)) [])
    (h2 : SC cfg.P i_spec_l1In [.s (.v (.int .i64) a1), .s (.v (.int .i64) (-10 : Int)), .s (.v (.int .i64) (10 : Int))] (.s (.v .bool true)) [])
    (h3 : a1 < (0 : Int))
    (h4 : SC cfg.P i_spec_prInverse [.s (.v (.pr .str .str) a0)] (.s (.v (.pr .str .str) c3)) [])
    (h5 : SC cfg.P i_spec_prUnit [] (.s (.v (.pr .str .str) c4)) [])
    (h6 : LoopSC cfg.P 2 (lb P_spec_PowerPair 0) (spec_PowerPair_L0a (IntKind.wrap .i64 (0 - a1)) c3 ((⟨#[]⟩ : ByteArray), (⟨#[]⟩ : ByteArray)) c4) (.exit 0) (spec_PowerPair_L0X2 k1y1 k1y24 k1yo2 k1yo4 k1yo6)) :
    SC cfg.P i_spec_PowerPair [.s (.v (.pr .str .str) a0), .s (.v (.int .i64) a1)] (.tup [.v (.pr .str .str) k1yo6, .v .bool true]) [] :=
  SC_of_run cfgOK (its := [.res (.s (.v .bool true)) [] [] [], .res (.s (.v .bool true)) [] [] [], .bool true, .res (.s (.v (.pr .str .str) c3)) [] [] [], .res (.s (.v (.pr .str .str) c4)) [] [] [], .loop (fun _ => (.exit 0, spec_PowerPair_L0X2 k1y1 k1y24 k1yo2 k1yo4 k1yo6))])
    (ps := [SC cfg.P i_spec_prGood [.s (.v (.pr .str .str) a0)] (.s (.v .bool true)) [],
      SC cfg.P i_spec_l1In [.s (.v (.int .i64) a1), .s (.v (.int .i64) (-10 : Int)), .s (.v (.int .i64) (10 : Int))] (.s (.v .bool true)) [],
      decide (a1 < (0 : Int)) = true,
      SC cfg.P i_spec_prInverse [.s (.v (.pr .str .str) a0)] (.s (.v (.pr .str .str) c3)) [],
      SC cfg.P i_spec_prUnit [] (.s (.v (.pr .str .str) c4)) [],
      LoopSC cfg.P 2 (lb P_spec_PowerPair 0) (spec_PowerPair_L0a (IntKind.wrap .i64 (0 - a1)) c3 ((⟨#[]⟩ : ByteArray), (⟨#[]⟩ : ByteArray)) c4) (.exit 0) (spec_PowerPair_L0X2 k1y1 k1y24 k1yo2 k1yo4 k1yo6)]) (by kernel_rfl) ⟨h1, h2, (decide_eq_true h3), h4, h5, h6, trivial⟩ get_spec_PowerPair (by decide)

theorem spec_PowerPair_p3 (a0 : (ByteArray × ByteArray)) (a1 : Int) (c3 : (ByteArray × ByteArray)) (k1y5 : Bool) (k1yo4 : (ByteArray × ByteArray))
    (h1 : SC cfg.P i_spec_prGood [.s (.v (.pr .str .str) a0)] (.s (.v .bool true)) [])
    (h2 : SC cfg.P i_spec_l1In [.s (.v (.int .i64) a1), .s (.v (.int .i64) (-10 : Int)), .s (.v (.int .i64) (10 : Int))] (.s (.v .bool true)) [])
    (h3 : ¬ (a1 < (0 : Int)))
    (h4 : SC cfg.P i_spec_prUnit [] (.s (.v (.pr .str .str) c3)) [])
    (h5 : LoopSC cfg.P 2 (lb P_spec_PowerPair 0) (spec_PowerPair_L0a a1 a0 ((⟨#[]⟩ : ByteArray), (⟨#[]⟩ : ByteArray)) c3) (.ret) (spec_PowerPair_L0X1 k1y5 k1yo4)) :
    SC cfg.P i_spec_PowerPair [.s (.v (.pr .str .str) a0), .s (.v (.int .i64) a1)] (.tup [.v (.pr .str .str) k1yo4, .v .bool k1y5]) [] :=
  SC_of_run cfgOK (its := [.res (.s (.v .bool true)) [] [] [], .res (.s (.v .bool true)) [] [] [], .bool false, .res (.s (.v (.pr .str .str) c3)) [] [] [], .loop (fun _ => (.ret, spec_PowerPair_L0X1 k1y5 k1yo4))])
    (ps := [SC cfg.P i_spec_prGood [.s (.v (.pr .str .str) a0)] (.s (.v .bool true)) [],
      SC cfg.P i_spec_l1In [.s (.v (.int .i64) a1), .s (.v (.int .i64) (-10 : Int)), .s (.v (.int .i64) (10 : Int))] (.s (.v .bool true)) [],
      decide (a1 < (0 : Int)) = false,
      SC cfg.P i_spec_prUnit [] (.s (.v (.pr .str .str) c3)) [],
      LoopSC cfg.P 2 (lb P_spec_PowerPair 0) (spec_PowerPair_L0a a1 a0 ((⟨#[]⟩ : ByteArray), (⟨#[]⟩ : ByteArray)) c3) (.ret) (spec_PowerPair_L0X1 k1y5 k1yo4)]) (by kernel_rfl) ⟨h1, h2, (decide_eq_false h3), h4, h5, trivial⟩ get_spec_PowerPair (by decide)

theorem spec_PowerPair_p4 (a0 : (ByteArray × ByteArray)) (a1 : Int) (c3 : (ByteArray × ByteArray)) (k1y1 : Int) (k1y24 : Bool) (k1yo2 : (ByteArray × ByteArray)) (k1yo4 : (ByteArray × ByteArray)) (k1yo6 : (ByteArray × ByteArray))
    (h1 : SC cfg.P i_spec_prGood [.s (.v (.pr .str .str) a0)] (.s (.v .bool true)) [])
    (h2 : SC cfg.P i_spec_l1In [.s (.v (.int .i64) a1), .s (.v (.int .i64) (-10 : Int)), .s (.v (.int .i64) (10 : Int))] (.s (.v .bool true)) [])
    (h3 : ¬ (a1 < (0 : Int)))
    (h4 : SC cfg.P i_spec_prUnit [] (.s (.v (.pr .str .str) c3)) [])
    (h5 : LoopSC cfg.P 2 (lb P_spec_PowerPair 0) (spec_PowerPair_L0a a1 a0 ((⟨#[]⟩ : ByteArray), (⟨#[]⟩ : ByteArray)) c3) (.exit 0) (spec_PowerPair_L0X2 k1y1 k1y24 k1yo2 k1yo4 k1yo6)) :
    SC cfg.P i_spec_PowerPair [.s (.v (.pr .str .str) a0), .s (.v (.int .i64) a1)] (.tup [.v (.pr .str .str) k1yo6, .v .bool true]) [] :=
  SC_of_run cfgOK (its := [.res (.s (.v .bool true)) [] [] [], .res (.s (.v .bool true)) [] [] [], .bool false, .res (.s (.v (.pr .str .str) c3)) [] [] [], .loop (fun _ => (.exit 0, spec_PowerPair_L0X2 k1y1 k1y24 k1yo2 k1yo4 k1yo6))])
    (ps := [SC cfg.P i_spec_prGood [.s (.v (.pr .str .str) a0)] (.s (.v .bool true)) [],
      SC cfg.P i_spec_l1In [.s (.v (.int .i64) a1), .s (.v (.int .i64) (-10 : Int)), .s (.v (.int .i64) (10 : Int))] (.s (.v .bool true)) [],
      decide (a1 < (0 : Int)) = false,
      SC cfg.P i_spec_prUnit [] (.s (.v (.pr .str .str) c3)) [],
      LoopSC cfg.P 2 (lb P_spec_PowerPair 0) (spec_PowerPair_L0a a1 a0 ((⟨#[]⟩ : ByteArray), (⟨#[]⟩ : ByteArray)) c3) (.exit 0) (spec_PowerPair_L0X2 k1y1 k1y24 k1yo2 k1yo4 k1yo6)]) (by kernel_rfl) ⟨h1, h2, (decide_eq_false h3), h4, h5, trivial⟩ get_spec_PowerPair (by decide)

theorem spec_PowerPair_p5 (a0 : (ByteArray × ByteArray)) (a1 : Int)
    (h1 : SC cfg.P i_spec_prGood [.s (.v (.pr .str .str) a0)] (.s (.v .bool true)) [])
    (h2 : SC cfg.P i_spec_l1In [.s (.v (.int .i64) a1), .s (.v (.int .i64) (-10 : Int)), .s (.v (.int .i64) (10 : Int))] (.s (.v .bool false)) []) :
    SC cfg.P i_spec_PowerPair [.s (.v (.pr .str .str) a0), .s (.v (.int .i64) a1)] (.tup [.v (.pr .str .str) ((⟨#[]⟩ : ByteArray), (⟨#[]⟩ : ByteArray)), .v .bool false]) [] :=
  SC_of_run cfgOK (its := [.res (.s (.v .bool true)) [] [] [], .res (.s (.v .bool false)) [] [] []])
    (ps := [SC cfg.P i_spec_prGood [.s (.v (.pr .str .str) a0)] (.s (.v .bool true)) [],
      SC cfg.P i_spec_l1In [.s (.v (.int .i64) a1), .s (.v (.int .i64) (-10 : Int)), .s (.v (.int .i64) (10 : Int))] (.s (.v .bool false)) []]) (by kernel_rfl) ⟨h1, h2, trivial⟩ get_spec_PowerPair (by decide)

theorem spec_PowerPair_p6 (a0 : (ByteArray × ByteArray)) (a1 : Int)
    (h1 : SC cfg.P i_spec_prGood [.s (.v (.pr .str .str) a0)] (.s (.v .bool false)) []) :
    SC cfg.P i_spec_PowerPair [.s (.v (.pr .str .str) a0), .s (.v (.int .i64) a1)] (.tup [.v (.pr .str .str) ((⟨#[]⟩ : ByteArray), (⟨#[]⟩ : ByteArray)), .v .bool false]) [] :=
  SC_of_run cfgOK (its := [.res (.s (.v .bool false)) [] [] []])
    (ps := [SC cfg.P i_spec_prGood [.s (.v (.pr .str .str) a0)] (.s (.v .bool false)) []]) (by kernel_rfl) ⟨h1, trivial⟩ get_spec_PowerPair (by decide)

/-! ### impl_PowerPair -/


theorem impl_PowerPair_p1 (a0 : (ByteArray × ByteArray)) (a1 : Int) (c1a : (Tr × Tr))
    (h1 : SC cfg.P i_impl_pairOf [.s (.v (.pr .str .str) a0)] (.tup [.v (.pr .tree .tree) c1a, .v .bool true]) [])
    (h2 : a1 < (-10 : Int)) :
    SC cfg.P i_impl_PowerPair [.s (.v (.pr .str .str) a0), .s (.v (.int .i64) a1)] (.tup [.v (.pr .str .str) ((⟨#[]⟩ : ByteArray), (⟨#[]⟩ : ByteArray)), .v .bool false]) [] :=
  SC_of_run cfgOK (its := [.res (.tup [.v (.pr .tree .tree) c1a, .v .bool true]) [] [] [], .bool true])
    (ps := [SC cfg.P i_impl_pairOf [.s (.v (.pr .str .str) a0)] (.tup [.v (.pr .tree .tree) c1a, .v .bool true]) [],
      decide (a1 < (-10 : Int)) = true]) (by kernel_rfl) ⟨h1, (decide_eq_true h2), trivial⟩ get_impl_PowerPair (by decide)

theorem impl_PowerPair_p2 (a0 : (ByteArray × ByteArray)) (a1 : Int) (c1a : (Tr × Tr))
    (h1 : SC cfg.P i_impl_pairOf [.s (.v (.pr .str .str) a0)] (.tup [.v (.pr .tree .tree) c1a, .v .bool true]) [])
    (h2 : ¬ (a1 < (-10 : Int)))
    (h3 : a1 > (10 : Int)) :
    SC cfg.P i_impl_PowerPair [.s (.v (.pr .str .str) a0), .s (.v (.int .i64) a1)] (.tup [.v (.pr .str .str) ((⟨#[]⟩ : ByteArray), (⟨#[]⟩ : ByteArray)), .v .bool false]) [] :=
  SC_of_run cfgOK (its := [.res (.tup [.v (.pr .tree .tree) c1a, .v .bool true]) [] [] [], .bool false, .bool true])
    (ps := [SC cfg.P i_impl_pairOf [.s (.v (.pr .str .str) a0)] (.tup [.v (.pr .tree .tree) c1a, .v .bool true]) [],
      decide (a1 < (-10 : Int)) = false,
      decide (a1 > (10 : Int)) = true]) (by kernel_rfl) ⟨h1, (decide_eq_false h2), (decide_eq_true h3), trivial⟩ get_impl_PowerPair (by decide)

theorem impl_PowerPair_p3 (a0 : (ByteArray × ByteArray)) (a1 : Int) (c1a : (Tr × Tr)) (c2 : (Tr × Tr)) (c3a : (Tr × Tr)) (c4 : (ByteArray × ByteArray))
    (h1 : SC cfg.P i_impl_pairOf [.s (.v (.pr .str .str) a0)] (.tup [.v (.pr .tree .tree) c1a, .v .bool true]) [])
    (h2 : ¬ (a1 < (-10 : Int)))
    (h3 : ¬ (a1 > (10 : Int)))
    (h4 : a1 < (0 : Int))
    (h5 : SC cfg.P i_impl_pair_inverse [.s (.v (.pr .tree .tree) c1a)] (.s (.v (.pr .tree .tree) c2)) [])
    (h6 : SC cfg.P i_impl_pair_power [.s (.v (.pr .tree .tree) c2), .s (.v (.int .i64) (IntKind.wrap .i64 (0 - a1)))] (.tup [.v (.pr .tree .tree) c3a, .v .bool true]) [])
    (h7 : SC cfg.P i_impl_pair_plain [.s (.v (.pr .tree .tree) c3a)] (.s (.v (.pr .str .str) c4)) []) :
    SC cfg.P i_impl_PowerPair [.s (.v (.pr .str .str) a0), .s (.v (.int .i64) a1)] (.tup [.v (.pr .str .str) c4, .v .bool true]) [] :=
  SC_of_run cfgOK (its := [.res (.tup [.v (.pr .tree .tree) c1a, .v .bool true]) [] [] [], .bool false, .bool false, .bool true, .res (.s (.v (.pr .tree .tree) c2)) [] [] [], .res (.tup [.v (.pr .tree .tree) c3a, .v .bool true]) [] [] [], .res (.s (.v (.pr .str .str) c4)) [] [] []])
    (ps := [SC cfg.P i_impl_pairOf [.s (.v (.pr .str .str) a0)] (.tup [.v (.pr .tree .tree) c1a, .v .bool true]) [],
      decide (a1 < (-10 : Int)) = false,
      decide (a1 > (10 : Int)) = false,
      decide (a1 < (0 : Int)) = true,
      SC cfg.P i_impl_pair_inverse [.s (.v (.pr .tree .tree) c1a)] (.s (.v (.pr .tree .tree) c2)) [],
      SC cfg.P i_impl_pair_power [.s (.v (.pr .tree .tree) c2), .s (.v (.int .i64) (IntKind.wrap .i64 (0 - a1)))] (.tup [.v (.pr .tree .tree) c3a, .v .bool true]) [],
      SC cfg.P i_impl_pair_plain [.s (.v (.pr .tree .tree) c3a)] (.s (.v (.pr .str .str) c4)) []]) (by kernel_rfl) ⟨h1, (decide_eq_false h2), (decide_eq_false h3), (decide_eq_true h4), h5, h6, h7, trivial⟩ get_impl_PowerPair (by decide)

theorem impl_PowerPair_p4 (a0 : (ByteArray × ByteArray)) (a1 : Int) (c1a : (Tr × Tr)) (c2 : (Tr × Tr)) (c3a : (Tr × Tr))
    (h1 : SC cfg.P i_impl_pairOf [.s (.v (.pr .str .str) a0)] (.tup [.v (.pr .tree .tree) c1a, .v .bool true]) [])
    (h2 : ¬ (a1 < (-10 : Int)))
    (h3 : ¬ (a1 > (10 : Int)))
    (h4 : a1 < (0 : Int))
    (h5 : SC cfg.P i_impl_pair_inverse [.s (.v (.pr .tree .tree) c1a)] (.s (.v (.pr .tree .tree) c2)) [])
    (h6 : SC cfg.P i_impl_pair_power [.s (.v (.pr .tree .tree) c2), .s (.v (.int .i64) (IntKind.wrap .i64 (0 - a1)))] (.tup [.v (.pr .tree .tree) c3a, .v .bool false]) []) :
    SC cfg.P i_impl_PowerPair [.s (.v (.pr .str .str) a0), .s (.v (.int .i64) a1)] (.tup [.v (.pr .str .str) ((⟨#[]⟩ : ByteArray), (⟨#[]⟩ : ByteArray)), .v .bool false]) [] :=
  SC_of_run cfgOK (its := [.res (.tup [.v (.pr .tree .tree) c1a, .v .bool true]) [] [] [], .bool false, .bool false, .bool true, .res (.s (.v (.pr .tree .tree) c2)) [] [] [], .res (.tup [.v (.pr .tree .tree) c3a, .v .bool false]) [] [] []])
    (ps := [SC cfg.P i_impl_pairOf [.s (.v (.pr .str .str) a0)] (.tup [.v (.pr .tree .tree) c1a, .v .bool true]) [],
      decide (a1 < (-10 : Int)) = false,
      decide (a1 > (10 : Int)) = false,
      decide (a1 < (0 : Int)) = true,
      SC cfg.P i_impl_pair_inverse [.s (.v (.pr .tree .tree) c1a)] (.s (.v (.pr .tree .tree) c2)) [],
      SC cfg.P i_impl_pair_power [.s (.v (.pr .tree .tree) c2), .s (.v (.int .i64) (IntKind.wrap .i64 (0 - a1)))] (.tup [.v (.pr .tree .tree) c3a, .v .bool false]) []]) (by kernel_rfl) ⟨h1, (decide_eq_false h2), (decide_eq_false h3), (decide_eq_true h4), h5, h6, trivial⟩ get_impl_PowerPair (by decide)

theorem impl_PowerPair_p5 (a0 : (ByteArray × ByteArray)) (a1 : Int) (c1a : (Tr × Tr)) (c2a : (Tr × Tr)) (c3 : (ByteArray × ByteArray))
    (h1 : SC cfg.P i_impl_pairOf [.s (.v (.pr .str .str) a0)] (.tup [.v (.pr .tree .tree) c1a, .v .bool true]) [])
    (h2 : ¬ (a1 < (-10 : Int)))
    (h3 : ¬ (a1 > (10 : Int)))
    (h4 : ¬ (a1 < (0 : Int)))
    (h5 : SC cfg.P i_impl_pair_power [.s (.v (.pr .tree .tree) c1a), .s (.v (.int .i64) a1)] (.tup [.v (.pr .tree .tree) c2a, .v .bool true]) [])
    (h6 : SC cfg.P i_impl_pair_plain [.s (.v (.pr .tree .tree) c2a)] (.s (.v (.pr .str .str) c3)) []) :
    SC cfg.P i_impl_PowerPair [.s (.v (.pr .str .str) a0), .s (.v (.int .i64) a1)] (.tup [.v (.pr .str .str) c3, .v .bool true]) [] :=
  SC_of_run cfgOK (its := [.res (.tup [.v (.pr .tree .tree) c1a, .v .bool true]) [] [] [], .bool false, .bool false, .bool false, .res (.tup [.v (.pr .tree .tree) c2a, .v .bool true]) [] [] [], .res (.s (.v (.pr .str .str) c3)) [] [] []])
    (ps := [SC cfg.P i_impl_pairOf [.s (.v (.pr .str .str) a0)] (.tup [.v (.pr .tree .tree) c1a, .v .bool true]) [],
      decide (a1 < (-10 : Int)) = false,
      decide (a1 > (10 : Int)) = false,
      decide (a1 < (0 : Int)) = false,
      SC cfg.P i_impl_pair_power [.s (.v (.pr .tree .tree) c1a), .s (.v (.int .i64) a1)] (.tup [.v (.pr .tree .tree) c2a, .v .bool true]) [],
      SC cfg.P i_impl_pair_plain [.s (.v (.pr .tree .tree) c2a)] (.s (.v (.pr .str .str) c3)) []]) (by kernel_rfl) ⟨h1, (decide_eq_false h2), (decide_eq_false h3), (decide_eq_false h4), h5, h6, trivial⟩ get_impl_PowerPair (by decide)

theorem impl_PowerPair_p6 (a0 : (ByteArray × ByteArray)) (a1 : Int) (c1a : (Tr × Tr)) (c2a : (Tr × Tr))
    (h1 : SC cfg.P i_impl_pairOf [.s (.v (.pr .str .str) a0)] (.tup [.v (.pr .tree .tree) c1a, .v .bool true]) [])
    (h2 : ¬ (a1 < (-10 : Int)))
    (h3 : ¬ (a1 > (10 : Int)))
    (h4 : ¬ (a1 < (0 : Int)))
    (h5 : SC cfg.P i_impl_pair_power [.s (.v (.pr .tree .tree) c1a), .s (.v (.int .i64) a1)] (.tup [.v (.pr .tree .tree) c2a, .v .bool false]) []) :
    SC cfg.P i_impl_PowerPair [.s (.v (.pr .str .str) a0), .s (.v (.int .i64) a1)] (.tup [.v (.pr .str .str) ((⟨#[]⟩ : ByteArray), (⟨#[]⟩ : ByteArray)), .v .bool false]) [] :=
  SC_of_run cfgOK (its := [.res (.tup [.v (.pr .tree .tree) c1a, .v .bool true]) [] [] [], .bool false, .bool false, .bool false, .res (.tup [.v (.pr .tree .tree) c2a, .v .bool false]) [] [] []])
    (ps := [SC cfg.P i_impl_pairOf [.s (.v (.pr .str .str) a0)] (.tup [.v (.pr .tree .tree) c1a, .v .bool true]) [],
      decide (a1 < (-10 : Int)) = false,
      decide (a1 > (10 : Int)) = false,
      decide (a1 < (0 : Int)) = false,
      SC cfg.P i_impl_pair_power [.s (.v (.pr .tree .tree) c1a), .s (.v (.int .i64) a1)] (.tup [.v (.pr .tree .tree) c2a, .v .bool false]) []]) (by kernel_rfl) ⟨h1, (decide_eq_false h2), (decide_eq_false h3), (decide_eq_false h4), h5, trivial⟩ get_impl_PowerPair (by decide)

theorem impl_PowerPair_p7 (a0 : (ByteArray × ByteArray)) (a1 : Int) (c1a : (Tr × Tr))
    (h1 : SC cfg.P i_impl_pairOf [.s (.v (.pr .str .str) a0)] (.tup [.v (.pr .tree .tree) c1a, .v .bool false]) []) :
    SC cfg.P i_impl_PowerPair [.s (.v (.pr .str .str) a0), .s (.v (.int .i64) a1)] (.tup [.v (.pr .str .str) ((⟨#[]⟩ : ByteArray), (⟨#[]⟩ : ByteArray)), .v .bool false]) [] :=
  SC_of_run cfgOK (its := [.res (.tup [.v (.pr .tree .tree) c1a, .v .bool false]) [] [] []])
    (ps := [SC cfg.P i_impl_pairOf [.s (.v (.pr .str .str) a0)] (.tup [.v (.pr .tree .tree) c1a, .v .bool false]) []]) (by kernel_rfl) ⟨h1, trivial⟩ get_impl_PowerPair (by decide)

/-! ### spec_l1In -/


theorem spec_l1In_p1 (a0 : Int) (a1 : Int) (a2 : Int)
    (h1 : a0 ≥ a1)
    (h2 : a0 ≤ a2) :
    SC cfg.P i_spec_l1In [.s (.v (.int .i64) a0), .s (.v (.int .i64) a1), .s (.v (.int .i64) a2)] (.s (.v .bool true)) [] :=
  SC_of_run cfgOK (its := [.bool true, .bool true])
    (ps := [decide (a0 ≥ a1) = true,
      decide (a0 ≤ a2) = true]) (by kernel_rfl) ⟨(decide_eq_true h1), (decide_eq_true h2), trivial⟩ get_spec_l1In (by decide)

theorem spec_l1In_p2 (a0 : Int) (a1 : Int) (a2 : Int)
    (h1 : a0 ≥ a1)
    (h2 : ¬ (a0 ≤ a2)) :
    SC cfg.P i_spec_l1In [.s (.v (.int .i64) a0), .s (.v (.int .i64) a1), .s (.v (.int .i64) a2)] (.s (.v .bool false)) [] :=
  SC_of_run cfgOK (its := [.bool true, .bool false])
    (ps := [decide (a0 ≥ a1) = true,
      decide (a0 ≤ a2) = false]) (by kernel_rfl) ⟨(decide_eq_true h1), (decide_eq_false h2), trivial⟩ get_spec_l1In (by decide)

theorem spec_l1In_p3 (a0 : Int) (a1 : Int) (a2 : Int)
    (h1 : ¬ (a0 ≥ a1)) :
    SC cfg.P i_spec_l1In [.s (.v (.int .i64) a0), .s (.v (.int .i64) a1), .s (.v (.int .i64) a2)] (.s (.v .bool false)) [] :=
  SC_of_run cfgOK (its := [.bool false])
    (ps := [decide (a0 ≥ a1) = false]) (by kernel_rfl) ⟨(decide_eq_false h1), trivial⟩ get_spec_l1In (by decide)

/-! ### spec_prUnit -/


theorem spec_prUnit_p1 
     :
    SC cfg.P i_spec_prUnit [] (.s (.v (.pr .str .str) ((⟨#[46]⟩ : ByteArray), (⟨#[46]⟩ : ByteArray)))) [] :=
  SC_of_run cfgOK (its := [])
    (ps := []) (by kernel_rfl) trivial get_spec_prUnit (by decide)

/-! ### impl_pair_power -/


def impl_pair_power_L0a (x8 : Int) (x9 : Int) (xo2 : (Tr × Tr)) (xo4 : (Tr × Tr)) (xo6 : (Tr × Tr)) : St := mkSt 21 [(2, .s (.adr 2 none)), (4, .s (.adr 4 none)), (6, .s (.adr 6 none)), (8, .s (.v (.int .i64) x8)), (9, .s (.v (.int .i64) x9))] [(2, .box (.pr .tree .tree) xo2 false), (4, .box (.pr .tree .tree) xo4 false), (6, .box (.pr .tree .tree) xo6 false)]

def impl_pair_power_L0X1 (y5 : Bool) (yo4 : (Tr × Tr)) : St := mkSt 21 [(4, .s (.adr 4 none)), (5, .s (.v .bool y5))] [(4, .box (.pr .tree .tree) yo4 false)]

def impl_pair_power_L0X2 (y8 : Int) (y9 : Int) (y10 : Bool) (yo2 : (Tr × Tr)) (yo4 : (Tr × Tr)) (yo6 : (Tr × Tr)) : St := mkSt 21 [(2, .s (.adr 2 none)), (4, .s (.adr 4 none)), (6, .s (.adr 6 none)), (8, .s (.v (.int .i64) y8)), (9, .s (.v (.int .i64) y9)), (10, .s (.v .bool y10))] [(2, .box (.pr .tree .tree) yo2 false), (4, .box (.pr .tree .tree) yo4 false), (6, .box (.pr .tree .tree) yo6 false)]

theorem impl_pair_power_L0a_x1 (x8 : Int) (x9 : Int) (xo2 : (Tr × Tr)) (xo4 : (Tr × Tr)) (xo6 : (Tr × Tr)) (dc1 : (Tr × Tr)) (dc2 : Int)
    (h1 : x9 < x8)
    (h2 : SC cfg.P i_impl_pair_times [.s (.v (.pr .tree .tree) xo6), .s (.v (.pr .tree .tree) xo2)] (.s (.v (.pr .tree .tree) dc1)) [])
    (h3 : SC cfg.P i_impl_node_carets [.s (.v .tree dc1.1)] (.s (.v (.int .i64) dc2)) [])
    (h4 : dc2 > (8 : Int)) :
    LoopSC cfg.P 2 (lb P_impl_pair_power 0) (impl_pair_power_L0a x8 x9 xo2 xo4 xo6) (.ret) (impl_pair_power_L0X1 false dc1) :=
  loop_out cfgOK (f := i_impl_pair_power) (its := [.bool true, .res (.s (.v (.pr .tree .tree) dc1)) [] [] [], .res (.s (.v (.int .i64) dc2)) [] [] [], .bool true])
    (ps := [decide (x9 < x8) = true,
      SC cfg.P i_impl_pair_times [.s (.v (.pr .tree .tree) xo6), .s (.v (.pr .tree .tree) xo2)] (.s (.v (.pr .tree .tree) dc1)) [],
      SC cfg.P i_impl_node_carets [.s (.v .tree dc1.1)] (.s (.v (.int .i64) dc2)) [],
      decide (dc2 > (8 : Int)) = true]) (by kernel_rfl) ⟨(decide_eq_true h1), h2, h3, (decide_eq_true h4), trivial⟩ (fun h => by cases h)

theorem impl_pair_power_L0a_i2 (x8 : Int) (x9 : Int) (xo2 : (Tr × Tr)) (xo4 : (Tr × Tr)) (xo6 : (Tr × Tr)) (dc1 : (Tr × Tr)) (dc2 : Int)
    (h1 : x9 < x8)
    (h2 : SC cfg.P i_impl_pair_times [.s (.v (.pr .tree .tree) xo6), .s (.v (.pr .tree .tree) xo2)] (.s (.v (.pr .tree .tree) dc1)) [])
    (h3 : SC cfg.P i_impl_node_carets [.s (.v .tree dc1.1)] (.s (.v (.int .i64) dc2)) [])
    (h4 : ¬ (dc2 > (8 : Int)))
    {e : AEx} {st : St} (next : LoopSC cfg.P 2 (lb P_impl_pair_power 0) (impl_pair_power_L0a x8 (IntKind.wrap .i64 (x9 + (1 : Int))) xo2 xo4 dc1) e st) :
    LoopSC cfg.P 2 (lb P_impl_pair_power 0) (impl_pair_power_L0a x8 x9 xo2 xo4 xo6) e st :=
  loop_iter cfgOK (f := i_impl_pair_power) (its := [.bool true, .res (.s (.v (.pr .tree .tree) dc1)) [] [] [], .res (.s (.v (.int .i64) dc2)) [] [] [], .bool false])
    (ps := [decide (x9 < x8) = true,
      SC cfg.P i_impl_pair_times [.s (.v (.pr .tree .tree) xo6), .s (.v (.pr .tree .tree) xo2)] (.s (.v (.pr .tree .tree) dc1)) [],
      SC cfg.P i_impl_node_carets [.s (.v .tree dc1.1)] (.s (.v (.int .i64) dc2)) [],
      decide (dc2 > (8 : Int)) = false]) (st1 := impl_pair_power_L0a x8 (IntKind.wrap .i64 (x9 + (1 : Int))) xo2 xo4 dc1) (by kernel_rfl) ⟨(decide_eq_true h1), h2, h3, (decide_eq_false h4), trivial⟩ next

theorem impl_pair_power_L0a_x3 (x8 : Int) (x9 : Int) (xo2 : (Tr × Tr)) (xo4 : (Tr × Tr)) (xo6 : (Tr × Tr))
    (h1 : ¬ (x9 < x8)) :
    LoopSC cfg.P 2 (lb P_impl_pair_power 0) (impl_pair_power_L0a x8 x9 xo2 xo4 xo6) (.exit 0) (impl_pair_power_L0X2 x8 x9 false xo2 xo4 xo6) :=
  loop_out cfgOK (f := i_impl_pair_power) (its := [.bool false])
    (ps := [decide (x9 < x8) = false]) (by kernel_rfl) ⟨(decide_eq_false h1), trivial⟩ (fun h => by cases h)

theorem impl_pair_power_p1 (a0 : (Tr × Tr)) (a1 : Int) (k1y5 : Bool) (k1yo4 : (Tr × Tr))
    (h1 : LoopSC cfg.P 2 (lb P_impl_pair_power 0) (impl_pair_power_L0a a1 (0 : Int) a0 (Tr.leaf, Tr.leaf) (Tr.leaf, Tr.leaf)) (.ret) (impl_pair_power_L0X1 k1y5 k1yo4)) :
    SC cfg.P i_impl_pair_power [.s (.v (.pr .tree .tree) a0), .s (.v (.int .i64) a1)] (.tup [.v (.pr .tree .tree) k1yo4, .v .bool k1y5]) [] :=
  SC_of_run cfgOK (its := [.loop (fun _ => (.ret, impl_pair_power_L0X1 k1y5 k1yo4))])
    (ps := [LoopSC cfg.P 2 (lb P_impl_pair_power 0) (impl_pair_power_L0a a1 (0 : Int) a0 (Tr.leaf, Tr.leaf) (Tr.leaf, Tr.leaf)) (.ret) (impl_pair_power_L0X1 k1y5 k1yo4)]) (by kernel_rfl) ⟨h1, trivial⟩ get_impl_pair_power (by decide)

theorem impl_pair_power_p2 (a0 : (Tr × Tr)) (a1 : Int) (k1y8 : Int) (k1y9 : Int) (k1y10 : Bool) (k1yo2 : (Tr × Tr)) (k1yo4 : (Tr × Tr)) (k1yo6 : (Tr × Tr))
    (h1 : LoopSC cfg.P 2 (lb P_impl_pair_power 0) (impl_pair_power_L0a a1 (0 : Int) a0 (Tr.leaf, Tr.leaf) (Tr.leaf, Tr.leaf)) (.exit 0) (impl_pair_power_L0X2 k1y8 k1y9 k1y10 k1yo2 k1yo4 k1yo6)) :
    SC cfg.P i_impl_pair_power [.s (.v (.pr .tree .tree) a0), .s (.v (.int .i64) a1)] (.tup [.v (.pr .tree .tree) k1yo6, .v .bool true]) [] :=
  SC_of_run cfgOK (its := [.loop (fun _ => (.exit 0, impl_pair_power_L0X2 k1y8 k1y9 k1y10 k1yo2 k1yo4 k1yo6))])
    (ps := [LoopSC cfg.P 2 (lb P_impl_pair_power 0) (impl_pair_power_L0a a1 (0 : Int) a0 (Tr.leaf, Tr.leaf) (Tr.leaf, Tr.leaf)) (.exit 0) (impl_pair_power_L0X2 k1y8 k1y9 k1y10 k1yo2 k1yo4 k1yo6)]) (by kernel_rfl) ⟨h1, trivial⟩ get_impl_pair_power (by decide)

end Go.AI
