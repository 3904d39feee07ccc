/- A part of the road: what it proves stands in its last texts. -/
import Derived.Test.YtnnbjnmkkfakdaaSIds
import Derived.Test.YtnnbjnmkkfakdaaProg
set_option autoImplicit false
set_option maxRecDepth 100000
set_option linter.unusedVariables false
namespace Go.AI
open Go.Proofs

/-! ### laws_FnExactPairOfWord -/


theorem laws_FnExactPairOfWord_p1 (a0 : (List Int))
    (h1 : ((List.length a0 : Nat) : Int) > (1048576 : Int)) :
    SC cfg.P i_laws_FnExactPairOfWord [.s (.v (.sl (.int .i64)) a0)] (.s (.v .bool true)) [] :=
  SC_of_run cfgOK (its := [.bool true])
    (ps := [decide (((List.length a0 : Nat) : Int) > (1048576 : Int)) = true]) (by kernel_rfl) ⟨(decide_eq_true h1), trivial⟩ get_laws_FnExactPairOfWord (by decide)

theorem laws_FnExactPairOfWord_p2 (a0 : (List Int)) (c1 : (List Int)) (c2a : (ByteArray × ByteArray)) (c2b : Bool) (c3 : (List Int)) (c4a : (ByteArray × ByteArray)) (c4b : Bool) (c6 : (List Int))
    (h1 : ¬ (((List.length a0 : Nat) : Int) > (1048576 : Int)))
    (h2 : SC cfg.P i_laws_toIntS [.s (.v (.sl (.int .i64)) a0)] (.s (.own t_int (.int .i64) c1)) [])
    (h3 : SC cfg.P i_spec_PairOfWord [.s (.v (.sl (.int .i64)) c1)] (.tup [.v (.pr .str .str) c2a, .v .bool c2b]) [])
    (h4 : SC cfg.P i_laws_toIntS [.s (.v (.sl (.int .i64)) a0)] (.s (.own t_int (.int .i64) c3)) [])
    (h5 : SC cfg.P i_impl_PairOfWord [.s (.v (.sl (.int .i64)) c3)] (.tup [.v (.pr .str .str) c4a, .v .bool c4b]) [])
    (h6 : SC cfg.P i_laws_eqPair [.s (.v (.pr .str .str) c4a), .s (.v (.pr .str .str) c2a)] (.s (.v .bool true)) [])
    (h7 : (!(c4b == c2b)) = false)
    (h8 : SC cfg.P i_laws_toIntS [.s (.v (.sl (.int .i64)) a0)] (.s (.own t_int (.int .i64) c6)) [])
    (h9 : SC cfg.P i_laws_eqIntS [.s (.v (.sl (.int .i64)) c3), .s (.v (.sl (.int .i64)) c6)] (.s (.v .bool true)) []) :
    SC cfg.P i_laws_FnExactPairOfWord [.s (.v (.sl (.int .i64)) a0)] (.s (.v .bool true)) [] :=
  SC_of_run cfgOK (its := [.bool false, .res (.s (.own t_int (.int .i64) c1)) [] [] [13], .res (.tup [.v (.pr .str .str) c2a, .v .bool c2b]) [] [] [], .res (.s (.own t_int (.int .i64) c3)) [] [] [18], .res (.tup [.v (.pr .str .str) c4a, .v .bool c4b]) [] [] [], .res (.s (.v .bool true)) [] [] [], .bool false, .res (.s (.own t_int (.int .i64) c6)) [] [] [35], .res (.s (.v .bool true)) [] [] []])
    (ps := [decide (((List.length a0 : Nat) : Int) > (1048576 : Int)) = false,
      SC cfg.P i_laws_toIntS [.s (.v (.sl (.int .i64)) a0)] (.s (.own t_int (.int .i64) c1)) [],
      SC cfg.P i_spec_PairOfWord [.s (.v (.sl (.int .i64)) c1)] (.tup [.v (.pr .str .str) c2a, .v .bool c2b]) [],
      SC cfg.P i_laws_toIntS [.s (.v (.sl (.int .i64)) a0)] (.s (.own t_int (.int .i64) c3)) [],
      SC cfg.P i_impl_PairOfWord [.s (.v (.sl (.int .i64)) c3)] (.tup [.v (.pr .str .str) c4a, .v .bool c4b]) [],
      SC cfg.P i_laws_eqPair [.s (.v (.pr .str .str) c4a), .s (.v (.pr .str .str) c2a)] (.s (.v .bool true)) [],
      (!(c4b == c2b)) = false,
      SC cfg.P i_laws_toIntS [.s (.v (.sl (.int .i64)) a0)] (.s (.own t_int (.int .i64) c6)) [],
      SC cfg.P i_laws_eqIntS [.s (.v (.sl (.int .i64)) c3), .s (.v (.sl (.int .i64)) c6)] (.s (.v .bool true)) []]) (by kernel_rfl) ⟨(decide_eq_false h1), h2, h3, h4, h5, h6, h7, h8, h9, trivial⟩ get_laws_FnExactPairOfWord (by decide)

/-! ### spec_PairOfWord -/


def spec_PairOfWord_L0a (x17 : (List Int)) (x18 : Int) (x19 : Int) (xo2 : (ByteArray × ByteArray)) (xo4 : (ByteArray × ByteArray)) : St := mkSt 34 [(2, .s (.adr 2 none)), (4, .s (.adr 4 none)), (17, .s (.v (.sl (.int .i64)) x17)), (18, .s (.v (.int .i64) x18)), (19, .s (.v (.int .i64) x19))] [(2, .box (.pr .str .str) xo2 false), (4, .box (.pr .str .str) xo4 false)]

def spec_PairOfWord_L0X1 (y3 : Bool) (yo2 : (ByteArray × ByteArray)) : St := mkSt 34 [(2, .s (.adr 2 none)), (3, .s (.v .bool y3))] [(2, .box (.pr .str .str) yo2 false)]

def spec_PairOfWord_L0X2 (y17 : (List Int)) (y18 : Int) (y19 : Int) (y20 : Bool) (yo2 : (ByteArray × ByteArray)) (yo4 : (ByteArray × ByteArray)) : St := mkSt 34 [(2, .s (.adr 2 none)), (4, .s (.adr 4 none)), (17, .s (.v (.sl (.int .i64)) y17)), (18, .s (.v (.int .i64) y18)), (19, .s (.v (.int .i64) y19)), (20, .s (.v .bool y20))] [(2, .box (.pr .str .str) yo2 false), (4, .box (.pr .str .str) yo4 false)]

theorem spec_PairOfWord_L0a_x1 (x17 : (List Int)) (x18 : Int) (x19 : Int) (xo2 : (ByteArray × ByteArray)) (xo4 : (ByteArray × ByteArray)) (dc1 : (ByteArray × ByteArray)) (dc2 : (ByteArray × ByteArray)) (dc3 : Int)
    (h1 : x19 < x18)
    (h2 : 0 ≤ x19)
    (h3 : x19 < (List.length x17 : Int))
    (h4 : SC cfg.P i_spec_wdLetter [.s (.v (.int .i64) (List.getD x17 (x19).toNat (0 : Int)))] (.s (.v (.pr .str .str) dc1)) [])
    (h5 : SC cfg.P i_spec_prTimes [.s (.v (.pr .str .str) xo4), .s (.v (.pr .str .str) dc1)] (.s (.v (.pr .str .str) dc2)) [])
    (h6 : SC cfg.P i_spec_trCarets [.s (.v .str dc2.1)] (.s (.v (.int .i64) dc3)) [])
    (h7 : dc3 > (8 : Int)) :
    LoopSC cfg.P 1 (lb P_spec_PairOfWord 0) (spec_PairOfWord_L0a x17 x18 x19 xo2 xo4) (.ret) (spec_PairOfWord_L0X1 false ((⟨#[]⟩ : ByteArray), (⟨#[]⟩ : ByteArray))) :=
  loop_out cfgOK (f := i_spec_PairOfWord) (its := [.bool true, .res (.s (.v (.pr .str .str) dc1)) [] [] [], .res (.s (.v (.pr .str .str) dc2)) [] [] [], .res (.s (.v (.int .i64) dc3)) [] [] [], .bool true])
    (ps := [decide (x19 < x18) = true,
      0 ≤ x19,
      x19 < (List.length x17 : Int),
      SC cfg.P i_spec_wdLetter [.s (.v (.int .i64) (List.getD x17 (x19).toNat (0 : Int)))] (.s (.v (.pr .str .str) dc1)) [],
      SC cfg.P i_spec_prTimes [.s (.v (.pr .str .str) xo4), .s (.v (.pr .str .str) dc1)] (.s (.v (.pr .str .str) dc2)) [],
      SC cfg.P i_spec_trCarets [.s (.v .str dc2.1)] (.s (.v (.int .i64) dc3)) [],
      decide (dc3 > (8 : Int)) = true]) (by kernel_rfl) ⟨(decide_eq_true h1), h2, h3, h4, h5, h6, (decide_eq_true h7), trivial⟩ (fun h => by cases h)

theorem spec_PairOfWord_L0a_i2 (x17 : (List Int)) (x18 : Int) (x19 : Int) (xo2 : (ByteArray × ByteArray)) (xo4 : (ByteArray × ByteArray)) (dc1 : (ByteArray × ByteArray)) (dc2 : (ByteArray × ByteArray)) (dc3 : Int)
    (h1 : x19 < x18)
    (h2 : 0 ≤ x19)
    (h3 : x19 < (List.length x17 : Int))
    (h4 : SC cfg.P i_spec_wdLetter [.s (.v (.int .i64) (List.getD x17 (x19).toNat (0 : Int)))] (.s (.v (.pr .str .str) dc1)) [])
    (h5 : SC cfg.P i_spec_prTimes [.s (.v (.pr .str .str) xo4), .s (.v (.pr .str .str) dc1)] (.s (.v (.pr .str .str) dc2)) [])
    (h6 : SC cfg.P i_spec_trCarets [.s (.v .str dc2.1)] (.s (.v (.int .i64) dc3)) [])
    (h7 : ¬ (dc3 > (8 : Int)))
    {e : AEx} {st : St} (next : LoopSC cfg.P 1 (lb P_spec_PairOfWord 0) (spec_PairOfWord_L0a x17 x18 (IntKind.wrap .i64 (x19 + (1 : Int))) xo2 dc2) e st) :
    LoopSC cfg.P 1 (lb P_spec_PairOfWord 0) (spec_PairOfWord_L0a x17 x18 x19 xo2 xo4) e st :=
  loop_iter cfgOK (f := i_spec_PairOfWord) (its := [.bool true, .res (.s (.v (.pr .str .str) dc1)) [] [] [], .res (.s (.v (.pr .str .str) dc2)) [] [] [], .res (.s (.v (.int .i64) dc3)) [] [] [], .bool false])
    (ps := [decide (x19 < x18) = true,
      0 ≤ x19,
      x19 < (List.length x17 : Int),
      SC cfg.P i_spec_wdLetter [.s (.v (.int .i64) (List.getD x17 (x19).toNat (0 : Int)))] (.s (.v (.pr .str .str) dc1)) [],
      SC cfg.P i_spec_prTimes [.s (.v (.pr .str .str) xo4), .s (.v (.pr .str .str) dc1)] (.s (.v (.pr .str .str) dc2)) [],
      SC cfg.P i_spec_trCarets [.s (.v .str dc2.1)] (.s (.v (.int .i64) dc3)) [],
      decide (dc3 > (8 : Int)) = false]) (st1 := spec_PairOfWord_L0a x17 x18 (IntKind.wrap .i64 (x19 + (1 : Int))) xo2 dc2) (by kernel_rfl) ⟨(decide_eq_true h1), h2, h3, h4, h5, h6, (decide_eq_false h7), trivial⟩ next

theorem spec_PairOfWord_L0a_x3 (x17 : (List Int)) (x18 : Int) (x19 : Int) (xo2 : (ByteArray × ByteArray)) (xo4 : (ByteArray × ByteArray))
    (h1 : ¬ (x19 < x18)) :
    LoopSC cfg.P 1 (lb P_spec_PairOfWord 0) (spec_PairOfWord_L0a x17 x18 x19 xo2 xo4) (.exit 0) (spec_PairOfWord_L0X2 x17 x18 x19 false xo2 xo4) :=
  loop_out cfgOK (f := i_spec_PairOfWord) (its := [.bool false])
    (ps := [decide (x19 < x18) = false]) (by kernel_rfl) ⟨(decide_eq_false h1), trivial⟩ (fun h => by cases h)

theorem spec_PairOfWord_p1 (a0 : (List Int)) (c3 : (ByteArray × ByteArray)) (k1y3 : Bool) (k1yo2 : (ByteArray × ByteArray))
    (h1 : SC cfg.P i_spec_wdGood [.s (.v (.sl (.int .i64)) a0)] (.s (.v .bool true)) [])
    (h2 : SC cfg.P i_spec_wdIs [.s (.v (.sl (.int .i64)) a0), .s (.v (.int .i64) (6 : Int))] (.s (.v .bool true)) [])
    (h3 : SC cfg.P i_spec_prUnit [] (.s (.v (.pr .str .str) c3)) [])
    (h4 : LoopSC cfg.P 1 (lb P_spec_PairOfWord 0) (spec_PairOfWord_L0a a0 ((List.length a0 : Nat) : Int) (0 : Int) ((⟨#[]⟩ : ByteArray), (⟨#[]⟩ : ByteArray)) c3) (.ret) (spec_PairOfWord_L0X1 k1y3 k1yo2)) :
    SC cfg.P i_spec_PairOfWord [.s (.v (.sl (.int .i64)) a0)] (.tup [.v (.pr .str .str) k1yo2, .v .bool k1y3]) [] :=
  SC_of_run cfgOK (its := [.res (.s (.v .bool true)) [] [] [], .res (.s (.v .bool true)) [] [] [], .res (.s (.v (.pr .str .str) c3)) [] [] [], .loop (fun _ => (.ret, spec_PairOfWord_L0X1 k1y3 k1yo2))])
    (ps := [SC cfg.P i_spec_wdGood [.s (.v (.sl (.int .i64)) a0)] (.s (.v .bool true)) [],
      SC cfg.P i_spec_wdIs [.s (.v (.sl (.int .i64)) a0), .s (.v (.int .i64) (6 : Int))] (.s (.v .bool true)) [],
      SC cfg.P i_spec_prUnit [] (.s (.v (.pr .str .str) c3)) [],
      LoopSC cfg.P 1 (lb P_spec_PairOfWord 0) (spec_PairOfWord_L0a a0 ((List.length a0 : Nat) : Int) (0 : Int) ((⟨#[]⟩ : ByteArray), (⟨#[]⟩ : ByteArray)) c3) (.ret) (spec_PairOfWord_L0X1 k1y3 k1yo2)]) (by kernel_rfl) ⟨h1, h2, h3, h4, trivial⟩ get_spec_PairOfWord (by decide)

theorem spec_PairOfWord_p2 (a0 : (List Int)) (c3 : (ByteArray × ByteArray)) (k1y17 : (List Int)) (k1y18 : Int) (k1y19 : Int) (k1y20 : Bool) (k1yo2 : (ByteArray × ByteArray)) (k1yo4 : (ByteArray × ByteArray))
    (h1 : SC cfg.P i_spec_wdGood [.s (.v (.sl (.int .i64)) a0)] (.s (.v .bool true)) [])
    (h2 : SC cfg.P i_spec_wdIs [.s (.v (.sl (.int .i64)) a0), .s (.v (.int .i64) (6 : Int))] (.s (.v .bool true)) [])
    (h3 : SC cfg.P i_spec_prUnit [] (.s (.v (.pr .str .str) c3)) [])
    (h4 : LoopSC cfg.P 1 (lb P_spec_PairOfWord 0) (spec_PairOfWord_L0a a0 ((List.length a0 : Nat) : Int) (0 : Int) ((⟨#[]⟩ : ByteArray), (⟨#[]⟩ : ByteArray)) c3) (.exit 0) (spec_PairOfWord_L0X2 k1y17 k1y18 k1y19 k1y20 k1yo2 k1yo4)) :
    SC cfg.P i_spec_PairOfWord [.s (.v (.sl (.int .i64)) a0)] (.tup [.v (.pr .str .str) k1yo4, .v .bool true]) [] :=
  SC_of_run cfgOK (its := [.res (.s (.v .bool true)) [] [] [], .res (.s (.v .bool true)) [] [] [], .res (.s (.v (.pr .str .str) c3)) [] [] [], .loop (fun _ => (.exit 0, spec_PairOfWord_L0X2 k1y17 k1y18 k1y19 k1y20 k1yo2 k1yo4))])
    (ps := [SC cfg.P i_spec_wdGood [.s (.v (.sl (.int .i64)) a0)] (.s (.v .bool true)) [],
      SC cfg.P i_spec_wdIs [.s (.v (.sl (.int .i64)) a0), .s (.v (.int .i64) (6 : Int))] (.s (.v .bool true)) [],
      SC cfg.P i_spec_prUnit [] (.s (.v (.pr .str .str) c3)) [],
      LoopSC cfg.P 1 (lb P_spec_PairOfWord 0) (spec_PairOfWord_L0a a0 ((List.length a0 : Nat) : Int) (0 : Int) ((⟨#[]⟩ : ByteArray), (⟨#[]⟩ : ByteArray)) c3) (.exit 0) (spec_PairOfWord_L0X2 k1y17 k1y18 k1y19 k1y20 k1yo2 k1yo4)]) (by kernel_rfl) ⟨h1, h2, h3, h4, trivial⟩ get_spec_PairOfWord (by decide)

theorem spec_PairOfWord_p3 (a0 : (List Int))
    (h1 : SC cfg.P i_spec_wdGood [.s (.v (.sl (.int .i64)) a0)] (.s (.v .bool true)) [])
    (h2 : SC cfg.P i_spec_wdIs [.s (.v (.sl (.int .i64)) a0), .s (.v (.int .i64) (6 : Int))] (.s (.v .bool false)) []) :
    SC cfg.P i_spec_PairOfWord [.s (.v (.sl (.int .i64)) a0)] (.tup [.v (.pr .str .str) ((⟨#[]⟩ : ByteArray), (⟨#[]⟩ : ByteArray)), .v .bool false]) [] :=
  SC_of_run cfgOK (its := [.res (.s (.v .bool true)) [] [] [], .res (.s (.v .bool false)) [] [] []])
    (ps := [SC cfg.P i_spec_wdGood [.s (.v (.sl (.int .i64)) a0)] (.s (.v .bool true)) [],
      SC cfg.P i_spec_wdIs [.s (.v (.sl (.int .i64)) a0), .s (.v (.int .i64) (6 : Int))] (.s (.v .bool false)) []]) (by kernel_rfl) ⟨h1, h2, trivial⟩ get_spec_PairOfWord (by decide)

theorem spec_PairOfWord_p4 (a0 : (List Int))
    (h1 : SC cfg.P i_spec_wdGood [.s (.v (.sl (.int .i64)) a0)] (.s (.v .bool false)) []) :
    SC cfg.P i_spec_PairOfWord [.s (.v (.sl (.int .i64)) a0)] (.tup [.v (.pr .str .str) ((⟨#[]⟩ : ByteArray), (⟨#[]⟩ : ByteArray)), .v .bool false]) [] :=
  SC_of_run cfgOK (its := [.res (.s (.v .bool false)) [] [] []])
    (ps := [SC cfg.P i_spec_wdGood [.s (.v (.sl (.int .i64)) a0)] (.s (.v .bool false)) []]) (by kernel_rfl) ⟨h1, trivial⟩ get_spec_PairOfWord (by decide)

/-! ### laws_toIntS -/


def laws_toIntS_L0a (x0 : (List Int)) (x4 : Int) (xo7 : (List Int)) : St := mkSt 22 [(0, .s (.v (.sl (.int .i64)) x0)), (3, .s (.osl 7 0)), (4, .s (.v (.int .i64) x4))] [(7, .row t_int (.int .i64) xo7 0 false)]

def laws_toIntS_L0X1 (y0 : (List Int)) (y4 : Int) (y11 : Bool) (yo7 : (List Int)) : St := mkSt 22 [(0, .s (.v (.sl (.int .i64)) y0)), (3, .s (.osl 7 0)), (4, .s (.v (.int .i64) y4)), (11, .s (.v .bool y11))] [(7, .row t_int (.int .i64) yo7 0 false)]

theorem laws_toIntS_L0a_i1 (x0 : (List Int)) (x4 : Int) (xo7 : (List Int))
    (h1 : x4 < ((List.length x0 : Nat) : Int))
    (h2 : 0 ≤ x4)
    (h3 : x4 < (List.length x0 : Int))
    (h4 : x4 < (List.length xo7 : Int))
    (h5 : (x4).toNat < List.length xo7)
    {e : AEx} {st : St} (next : LoopSC cfg.P 1 (lb P_laws_toIntS 0) (laws_toIntS_L0a x0 (IntKind.wrap .i64 (x4 + (1 : Int))) (List.set xo7 (x4).toNat (List.getD x0 (x4).toNat (0 : Int)))) e st) :
    LoopSC cfg.P 1 (lb P_laws_toIntS 0) (laws_toIntS_L0a x0 x4 xo7) e st :=
  loop_iter cfgOK (f := i_laws_toIntS) (its := [.bool true])
    (ps := [decide (x4 < ((List.length x0 : Nat) : Int)) = true,
      0 ≤ x4,
      x4 < (List.length x0 : Int),
      0 ≤ x4,
      x4 < (List.length xo7 : Int),
      (x4).toNat < List.length xo7]) (st1 := laws_toIntS_L0a x0 (IntKind.wrap .i64 (x4 + (1 : Int))) (List.set xo7 (x4).toNat (List.getD x0 (x4).toNat (0 : Int)))) (by kernel_rfl) ⟨(decide_eq_true h1), h2, h3, h2, h4, h5, trivial⟩ next

theorem laws_toIntS_L0a_x2 (x0 : (List Int)) (x4 : Int) (xo7 : (List Int))
    (h1 : ¬ (x4 < ((List.length x0 : Nat) : Int))) :
    LoopSC cfg.P 1 (lb P_laws_toIntS 0) (laws_toIntS_L0a x0 x4 xo7) (.exit 0) (laws_toIntS_L0X1 x0 x4 false xo7) :=
  loop_out cfgOK (f := i_laws_toIntS) (its := [.bool false])
    (ps := [decide (x4 < ((List.length x0 : Nat) : Int)) = false]) (by kernel_rfl) ⟨(decide_eq_false h1), trivial⟩ (fun h => by cases h)

theorem laws_toIntS_p1 (a0 : (List Int)) (k1y0 : (List Int)) (k1y4 : Int) (k1y11 : Bool) (k1yo7 : (List Int))
    (h1 : 0 ≤ ((List.length a0 : Nat) : Int))
    (h2 : ((List.length a0 : Nat) : Int) ≤ (lim : Int))
    (h3 : ((List.length a0 : Nat) : Int) = ((List.length a0 : Nat) : Int))
    (h4 : LoopSC cfg.P 1 (lb P_laws_toIntS 0) (laws_toIntS_L0a a0 (0 : Int) (List.replicate (((List.length a0 : Nat) : Int)).toNat (0 : Int))) (.exit 0) (laws_toIntS_L0X1 k1y0 k1y4 k1y11 k1yo7)) :
    SC cfg.P i_laws_toIntS [.s (.v (.sl (.int .i64)) a0)] (.s (.own t_int (.int .i64) k1yo7)) [] :=
  SC_of_run cfgOK (its := [.loop (fun _ => (.exit 0, laws_toIntS_L0X1 k1y0 k1y4 k1y11 k1yo7))])
    (ps := [0 ≤ ((List.length a0 : Nat) : Int),
      ((List.length a0 : Nat) : Int) ≤ (lim : Int),
      ((List.length a0 : Nat) : Int) = ((List.length a0 : Nat) : Int),
      LoopSC cfg.P 1 (lb P_laws_toIntS 0) (laws_toIntS_L0a a0 (0 : Int) (List.replicate (((List.length a0 : Nat) : Int)).toNat (0 : Int))) (.exit 0) (laws_toIntS_L0X1 k1y0 k1y4 k1y11 k1yo7)]) (by kernel_rfl) ⟨h1, h2, h3, h4, trivial⟩ get_laws_toIntS (by decide)

/-! ### impl_PairOfWord -/


theorem impl_PairOfWord_p1 (a0 : (List Int)) (c2a : (Tr × Tr)) (c3 : (ByteArray × ByteArray))
    (h1 : SC cfg.P i_impl_IsWord [.s (.v (.sl (.int .i64)) a0)] (.s (.v .bool true)) [])
    (h2 : SC cfg.P i_impl_pairOfWord [.s (.v (.sl (.int .i64)) a0)] (.tup [.v (.pr .tree .tree) c2a, .v .bool true]) [])
    (h3 : SC cfg.P i_impl_pair_plain [.s (.v (.pr .tree .tree) c2a)] (.s (.v (.pr .str .str) c3)) []) :
    SC cfg.P i_impl_PairOfWord [.s (.v (.sl (.int .i64)) a0)] (.tup [.v (.pr .str .str) c3, .v .bool true]) [] :=
  SC_of_run cfgOK (its := [.res (.s (.v .bool true)) [] [] [], .res (.tup [.v (.pr .tree .tree) c2a, .v .bool true]) [] [] [], .res (.s (.v (.pr .str .str) c3)) [] [] []])
    (ps := [SC cfg.P i_impl_IsWord [.s (.v (.sl (.int .i64)) a0)] (.s (.v .bool true)) [],
      SC cfg.P i_impl_pairOfWord [.s (.v (.sl (.int .i64)) a0)] (.tup [.v (.pr .tree .tree) c2a, .v .bool true]) [],
      SC cfg.P i_impl_pair_plain [.s (.v (.pr .tree .tree) c2a)] (.s (.v (.pr .str .str) c3)) []]) (by kernel_rfl) ⟨h1, h2, h3, trivial⟩ get_impl_PairOfWord (by decide)

theorem impl_PairOfWord_p2 (a0 : (List Int)) (c2a : (Tr × Tr))
    (h1 : SC cfg.P i_impl_IsWord [.s (.v (.sl (.int .i64)) a0)] (.s (.v .bool true)) [])
    (h2 : SC cfg.P i_impl_pairOfWord [.s (.v (.sl (.int .i64)) a0)] (.tup [.v (.pr .tree .tree) c2a, .v .bool false]) []) :
    SC cfg.P i_impl_PairOfWord [.s (.v (.sl (.int .i64)) a0)] (.tup [.v (.pr .str .str) ((⟨#[]⟩ : ByteArray), (⟨#[]⟩ : ByteArray)), .v .bool false]) [] :=
  SC_of_run cfgOK (its := [.res (.s (.v .bool true)) [] [] [], .res (.tup [.v (.pr .tree .tree) c2a, .v .bool false]) [] [] []])
    (ps := [SC cfg.P i_impl_IsWord [.s (.v (.sl (.int .i64)) a0)] (.s (.v .bool true)) [],
      SC cfg.P i_impl_pairOfWord [.s (.v (.sl (.int .i64)) a0)] (.tup [.v (.pr .tree .tree) c2a, .v .bool false]) []]) (by kernel_rfl) ⟨h1, h2, trivial⟩ get_impl_PairOfWord (by decide)

theorem impl_PairOfWord_p3 (a0 : (List Int))
    (h1 : SC cfg.P i_impl_IsWord [.s (.v (.sl (.int .i64)) a0)] (.s (.v .bool false)) []) :
    SC cfg.P i_impl_PairOfWord [.s (.v (.sl (.int .i64)) a0)] (.tup [.v (.pr .str .str) ((⟨#[]⟩ : ByteArray), (⟨#[]⟩ : ByteArray)), .v .bool false]) [] :=
  SC_of_run cfgOK (its := [.res (.s (.v .bool false)) [] [] []])
    (ps := [SC cfg.P i_impl_IsWord [.s (.v (.sl (.int .i64)) a0)] (.s (.v .bool false)) []]) (by kernel_rfl) ⟨h1, trivial⟩ get_impl_PairOfWord (by decide)

/-! ### laws_eqIntS -/


def laws_eqIntS_L0a (x0 : (List Int)) (x1 : (List Int)) (x5 : Int) : St := mkSt 26 [(0, .s (.v (.sl (.int .i64)) x0)), (1, .s (.v (.sl (.int .i64)) x1)), (5, .s (.v (.int .i64) x5))] []

def laws_eqIntS_L0X1 (y4 : Bool) : St := mkSt 26 [(4, .s (.v .bool y4))] []

def laws_eqIntS_L0X2 (y0 : (List Int)) (y1 : (List Int)) (y5 : Int) (y14 : Bool) : St := mkSt 26 [(0, .s (.v (.sl (.int .i64)) y0)), (1, .s (.v (.sl (.int .i64)) y1)), (5, .s (.v (.int .i64) y5)), (14, .s (.v .bool y14))] []

theorem laws_eqIntS_L0a_x1 (x0 : (List Int)) (x1 : (List Int)) (x5 : Int)
    (h1 : x5 < ((List.length x0 : Nat) : Int))
    (h2 : 0 ≤ x5)
    (h3 : x5 < (List.length x0 : Int))
    (h4 : x5 < (List.length x1 : Int))
    (h5 : (List.getD x0 (x5).toNat (0 : Int)) ≠ (List.getD x1 (x5).toNat (0 : Int))) :
    LoopSC cfg.P 2 (lb P_laws_eqIntS 0) (laws_eqIntS_L0a x0 x1 x5) (.ret) (laws_eqIntS_L0X1 false) :=
  loop_out cfgOK (f := i_laws_eqIntS) (its := [.bool true, .bool true])
    (ps := [decide (x5 < ((List.length x0 : Nat) : Int)) = true,
      0 ≤ x5,
      x5 < (List.length x0 : Int),
      0 ≤ x5,
      x5 < (List.length x1 : Int),
      ((List.getD x0 (x5).toNat (0 : Int)) != (List.getD x1 (x5).toNat (0 : Int))) = true]) (by kernel_rfl) ⟨(decide_eq_true h1), h2, h3, h2, h4, (bne_t h5), trivial⟩ (fun h => by cases h)

theorem laws_eqIntS_L0a_i2 (x0 : (List Int)) (x1 : (List Int)) (x5 : Int)
    (h1 : x5 < ((List.length x0 : Nat) : Int))
    (h2 : 0 ≤ x5)
    (h3 : x5 < (List.length x0 : Int))
    (h4 : x5 < (List.length x1 : Int))
    (h5 : (List.getD x0 (x5).toNat (0 : Int)) = (List.getD x1 (x5).toNat (0 : Int)))
    {e : AEx} {st : St} (next : LoopSC cfg.P 2 (lb P_laws_eqIntS 0) (laws_eqIntS_L0a x0 x1 (IntKind.wrap .i64 (x5 + (1 : Int)))) e st) :
    LoopSC cfg.P 2 (lb P_laws_eqIntS 0) (laws_eqIntS_L0a x0 x1 x5) e st :=
  loop_iter cfgOK (f := i_laws_eqIntS) (its := [.bool true, .bool false])
    (ps := [decide (x5 < ((List.length x0 : Nat) : Int)) = true,
      0 ≤ x5,
      x5 < (List.length x0 : Int),
      0 ≤ x5,
      x5 < (List.length x1 : Int),
      ((List.getD x0 (x5).toNat (0 : Int)) != (List.getD x1 (x5).toNat (0 : Int))) = false]) (st1 := laws_eqIntS_L0a x0 x1 (IntKind.wrap .i64 (x5 + (1 : Int)))) (by kernel_rfl) ⟨(decide_eq_true h1), h2, h3, h2, h4, (bne_f h5), trivial⟩ next

theorem laws_eqIntS_L0a_x3 (x0 : (List Int)) (x1 : (List Int)) (x5 : Int)
    (h1 : ¬ (x5 < ((List.length x0 : Nat) : Int))) :
    LoopSC cfg.P 2 (lb P_laws_eqIntS 0) (laws_eqIntS_L0a x0 x1 x5) (.exit 0) (laws_eqIntS_L0X2 x0 x1 x5 false) :=
  loop_out cfgOK (f := i_laws_eqIntS) (its := [.bool false])
    (ps := [decide (x5 < ((List.length x0 : Nat) : Int)) = false]) (by kernel_rfl) ⟨(decide_eq_false h1), trivial⟩ (fun h => by cases h)

theorem laws_eqIntS_p1 (a0 : (List Int)) (a1 : (List Int))
    (h1 : ((List.length a0 : Nat) : Int) ≠ ((List.length a1 : Nat) : Int)) :
    SC cfg.P i_laws_eqIntS [.s (.v (.sl (.int .i64)) a0), .s (.v (.sl (.int .i64)) a1)] (.s (.v .bool false)) [] :=
  SC_of_run cfgOK (its := [.bool true])
    (ps := [(((List.length a0 : Nat) : Int) != ((List.length a1 : Nat) : Int)) = true]) (by kernel_rfl) ⟨(bne_t h1), trivial⟩ get_laws_eqIntS (by decide)

theorem laws_eqIntS_p2 (a0 : (List Int)) (a1 : (List Int)) (k1y4 : Bool)
    (h1 : ((List.length a0 : Nat) : Int) = ((List.length a1 : Nat) : Int))
    (h2 : LoopSC cfg.P 2 (lb P_laws_eqIntS 0) (laws_eqIntS_L0a a0 a1 (0 : Int)) (.ret) (laws_eqIntS_L0X1 k1y4)) :
    SC cfg.P i_laws_eqIntS [.s (.v (.sl (.int .i64)) a0), .s (.v (.sl (.int .i64)) a1)] (.s (.v .bool k1y4)) [] :=
  SC_of_run cfgOK (its := [.bool false, .loop (fun _ => (.ret, laws_eqIntS_L0X1 k1y4))])
    (ps := [(((List.length a0 : Nat) : Int) != ((List.length a1 : Nat) : Int)) = false,
      LoopSC cfg.P 2 (lb P_laws_eqIntS 0) (laws_eqIntS_L0a a0 a1 (0 : Int)) (.ret) (laws_eqIntS_L0X1 k1y4)]) (by kernel_rfl) ⟨(bne_f h1), h2, trivial⟩ get_laws_eqIntS (by decide)

theorem laws_eqIntS_p3 (a0 : (List Int)) (a1 : (List Int)) (k1y0 : (List Int)) (k1y1 : (List Int)) (k1y5 : Int) (k1y14 : Bool)
    (h1 : ((List.length a0 : Nat) : Int) = ((List.length a1 : Nat) : Int))
    (h2 : LoopSC cfg.P 2 (lb P_laws_eqIntS 0) (laws_eqIntS_L0a a0 a1 (0 : Int)) (.exit 0) (laws_eqIntS_L0X2 k1y0 k1y1 k1y5 k1y14)) :
    SC cfg.P i_laws_eqIntS [.s (.v (.sl (.int .i64)) a0), .s (.v (.sl (.int .i64)) a1)] (.s (.v .bool true)) [] :=
  SC_of_run cfgOK (its := [.bool false, .loop (fun _ => (.exit 0, laws_eqIntS_L0X2 k1y0 k1y1 k1y5 k1y14))])
    (ps := [(((List.length a0 : Nat) : Int) != ((List.length a1 : Nat) : Int)) = false,
      LoopSC cfg.P 2 (lb P_laws_eqIntS 0) (laws_eqIntS_L0a a0 a1 (0 : Int)) (.exit 0) (laws_eqIntS_L0X2 k1y0 k1y1 k1y5 k1y14)]) (by kernel_rfl) ⟨(bne_f h1), h2, trivial⟩ get_laws_eqIntS (by decide)

/-! ### spec_wdLetter -/


theorem spec_wdLetter_p1 (a0 : Int) (c1 : (ByteArray × ByteArray)) (c2 : (ByteArray × ByteArray))
    (h1 : a0 < (0 : Int))
    (h2 : SC cfg.P i_spec_prGenerator [.s (.v (.int .i64) (IntKind.wrap .i64 ((IntKind.wrap .i64 (0 - a0)) - (1 : Int))))] (.s (.v (.pr .str .str) c1)) [])
    (h3 : SC cfg.P i_spec_prInverse [.s (.v (.pr .str .str) c1)] (.s (.v (.pr .str .str) c2)) []) :
    SC cfg.P i_spec_wdLetter [.s (.v (.int .i64) a0)] (.s (.v (.pr .str .str) c2)) [] :=
  SC_of_run cfgOK (its := [.bool true, .res (.s (.v (.pr .str .str) c1)) [] [] [], .res (.s (.v (.pr .str .str) c2)) [] [] []])
    (ps := [decide (a0 < (0 : Int)) = true,
      SC cfg.P i_spec_prGenerator [.s (.v (.int .i64) (IntKind.wrap .i64 ((IntKind.wrap .i64 (0 - a0)) - (1 : Int))))] (.s (.v (.pr .str .str) c1)) [],
      SC cfg.P i_spec_prInverse [.s (.v (.pr .str .str) c1)] (.s (.v (.pr .str .str) c2)) []]) (by kernel_rfl) ⟨(decide_eq_true h1), h2, h3, trivial⟩ get_spec_wdLetter (by decide)

theorem spec_wdLetter_p2 (a0 : Int) (c1 : (ByteArray × ByteArray))
    (h1 : ¬ (a0 < (0 : Int)))
    (h2 : SC cfg.P i_spec_prGenerator [.s (.v (.int .i64) (IntKind.wrap .i64 (a0 - (1 : Int))))] (.s (.v (.pr .str .str) c1)) []) :
    SC cfg.P i_spec_wdLetter [.s (.v (.int .i64) a0)] (.s (.v (.pr .str .str) c1)) [] :=
  SC_of_run cfgOK (its := [.bool false, .res (.s (.v (.pr .str .str) c1)) [] [] []])
    (ps := [decide (a0 < (0 : Int)) = false,
      SC cfg.P i_spec_prGenerator [.s (.v (.int .i64) (IntKind.wrap .i64 (a0 - (1 : Int))))] (.s (.v (.pr .str .str) c1)) []]) (by kernel_rfl) ⟨(decide_eq_false h1), h2, trivial⟩ get_spec_wdLetter (by decide)

/-! ### impl_pairOfWord -/


def impl_pairOfWord_L0a (x0 : (List Int)) (x9 : (List Int)) (x10 : Int) (x11 : Int) (xo2 : (Tr × Tr)) (xo4 : (Tr × Tr)) : St := mkSt 37 [(0, .s (.v (.sl (.int .i64)) x0)), (2, .s (.adr 2 none)), (4, .s (.adr 4 none)), (9, .s (.v (.sl (.int .i64)) x9)), (10, .s (.v (.int .i64) x10)), (11, .s (.v (.int .i64) x11))] [(2, .box (.pr .tree .tree) xo2 false), (4, .box (.pr .tree .tree) xo4 false)]

def impl_pairOfWord_L0X1 (y3 : Bool) (yo2 : (Tr × Tr)) : St := mkSt 37 [(2, .s (.adr 2 none)), (3, .s (.v .bool y3))] [(2, .box (.pr .tree .tree) yo2 false)]

def impl_pairOfWord_L0X2 (y0 : (List Int)) (y9 : (List Int)) (y10 : Int) (y11 : Int) (y12 : Bool) (yo2 : (Tr × Tr)) (yo4 : (Tr × Tr)) : St := mkSt 37 [(0, .s (.v (.sl (.int .i64)) y0)), (2, .s (.adr 2 none)), (4, .s (.adr 4 none)), (9, .s (.v (.sl (.int .i64)) y9)), (10, .s (.v (.int .i64) y10)), (11, .s (.v (.int .i64) y11)), (12, .s (.v .bool y12))] [(2, .box (.pr .tree .tree) yo2 false), (4, .box (.pr .tree .tree) yo4 false)]

def impl_pairOfWord_L1a (x20 : (List Int)) (x21 : Int) (x22 : Int) (xo2 : (Tr × Tr)) (xo4 : (Tr × Tr)) : St := mkSt 37 [(2, .s (.adr 2 none)), (4, .s (.adr 4 none)), (20, .s (.v (.sl (.int .i64)) x20)), (21, .s (.v (.int .i64) x21)), (22, .s (.v (.int .i64) x22))] [(2, .box (.pr .tree .tree) xo2 false), (4, .box (.pr .tree .tree) xo4 false)]

def impl_pairOfWord_L1X1 (y3 : Bool) (yo2 : (Tr × Tr)) : St := mkSt 37 [(2, .s (.adr 2 none)), (3, .s (.v .bool y3))] [(2, .box (.pr .tree .tree) yo2 false)]

def impl_pairOfWord_L1X2 (y20 : (List Int)) (y21 : Int) (y22 : Int) (y23 : Bool) (yo2 : (Tr × Tr)) (yo4 : (Tr × Tr)) : St := mkSt 37 [(2, .s (.adr 2 none)), (4, .s (.adr 4 none)), (20, .s (.v (.sl (.int .i64)) y20)), (21, .s (.v (.int .i64) y21)), (22, .s (.v (.int .i64) y22)), (23, .s (.v .bool y23))] [(2, .box (.pr .tree .tree) yo2 false), (4, .box (.pr .tree .tree) yo4 false)]

theorem impl_pairOfWord_L0a_x1 (x0 : (List Int)) (x9 : (List Int)) (x10 : Int) (x11 : Int) (xo2 : (Tr × Tr)) (xo4 : (Tr × Tr)) (dc1 : Int)
    (h1 : x11 < x10)
    (h2 : 0 ≤ x11)
    (h3 : x11 < (List.length x9 : Int))
    (h4 : SC cfg.P i_impl_size [.s (.v (.int .i64) (List.getD x9 (x11).toNat (0 : Int)))] (.s (.v (.int .i64) dc1)) [])
    (h5 : dc1 > (7 : Int)) :
    LoopSC cfg.P 1 (lb P_impl_pairOfWord 0) (impl_pairOfWord_L0a x0 x9 x10 x11 xo2 xo4) (.ret) (impl_pairOfWord_L0X1 false (Tr.leaf, Tr.leaf)) :=
  loop_out cfgOK (f := i_impl_pairOfWord) (its := [.bool true, .res (.s (.v (.int .i64) dc1)) [] [] [], .bool true])
    (ps := [decide (x11 < x10) = true,
      0 ≤ x11,
      x11 < (List.length x9 : Int),
      SC cfg.P i_impl_size [.s (.v (.int .i64) (List.getD x9 (x11).toNat (0 : Int)))] (.s (.v (.int .i64) dc1)) [],
      decide (dc1 > (7 : Int)) = true]) (by kernel_rfl) ⟨(decide_eq_true h1), h2, h3, h4, (decide_eq_true h5), trivial⟩ (fun h => by cases h)

theorem impl_pairOfWord_L0a_i2 (x0 : (List Int)) (x9 : (List Int)) (x10 : Int) (x11 : Int) (xo2 : (Tr × Tr)) (xo4 : (Tr × Tr)) (dc1 : Int)
    (h1 : x11 < x10)
    (h2 : 0 ≤ x11)
    (h3 : x11 < (List.length x9 : Int))
    (h4 : SC cfg.P i_impl_size [.s (.v (.int .i64) (List.getD x9 (x11).toNat (0 : Int)))] (.s (.v (.int .i64) dc1)) [])
    (h5 : ¬ (dc1 > (7 : Int)))
    {e : AEx} {st : St} (next : LoopSC cfg.P 1 (lb P_impl_pairOfWord 0) (impl_pairOfWord_L0a x0 x9 x10 (IntKind.wrap .i64 (x11 + (1 : Int))) xo2 xo4) e st) :
    LoopSC cfg.P 1 (lb P_impl_pairOfWord 0) (impl_pairOfWord_L0a x0 x9 x10 x11 xo2 xo4) e st :=
  loop_iter cfgOK (f := i_impl_pairOfWord) (its := [.bool true, .res (.s (.v (.int .i64) dc1)) [] [] [], .bool false])
    (ps := [decide (x11 < x10) = true,
      0 ≤ x11,
      x11 < (List.length x9 : Int),
      SC cfg.P i_impl_size [.s (.v (.int .i64) (List.getD x9 (x11).toNat (0 : Int)))] (.s (.v (.int .i64) dc1)) [],
      decide (dc1 > (7 : Int)) = false]) (st1 := impl_pairOfWord_L0a x0 x9 x10 (IntKind.wrap .i64 (x11 + (1 : Int))) xo2 xo4) (by kernel_rfl) ⟨(decide_eq_true h1), h2, h3, h4, (decide_eq_false h5), trivial⟩ next

theorem impl_pairOfWord_L0a_x3 (x0 : (List Int)) (x9 : (List Int)) (x10 : Int) (x11 : Int) (xo2 : (Tr × Tr)) (xo4 : (Tr × Tr))
    (h1 : ¬ (x11 < x10)) :
    LoopSC cfg.P 1 (lb P_impl_pairOfWord 0) (impl_pairOfWord_L0a x0 x9 x10 x11 xo2 xo4) (.exit 0) (impl_pairOfWord_L0X2 x0 x9 x10 x11 false xo2 xo4) :=
  loop_out cfgOK (f := i_impl_pairOfWord) (its := [.bool false])
    (ps := [decide (x11 < x10) = false]) (by kernel_rfl) ⟨(decide_eq_false h1), trivial⟩ (fun h => by cases h)

theorem impl_pairOfWord_L1a_x1 (x20 : (List Int)) (x21 : Int) (x22 : Int) (xo2 : (Tr × Tr)) (xo4 : (Tr × Tr)) (dc1 : (Tr × Tr)) (dc2 : (Tr × Tr)) (dc3 : Int)
    (h1 : x22 < x21)
    (h2 : 0 ≤ x22)
    (h3 : x22 < (List.length x20 : Int))
    (h4 : SC cfg.P i_impl_letter [.s (.v (.int .i64) (List.getD x20 (x22).toNat (0 : Int)))] (.s (.v (.pr .tree .tree) dc1)) [])
    (h5 : SC cfg.P i_impl_pair_times [.s (.v (.pr .tree .tree) xo4), .s (.v (.pr .tree .tree) dc1)] (.s (.v (.pr .tree .tree) dc2)) [])
    (h6 : SC cfg.P i_impl_node_carets [.s (.v .tree dc2.1)] (.s (.v (.int .i64) dc3)) [])
    (h7 : dc3 > (8 : Int)) :
    LoopSC cfg.P 1 (lb P_impl_pairOfWord 1) (impl_pairOfWord_L1a x20 x21 x22 xo2 xo4) (.ret) (impl_pairOfWord_L1X1 false (Tr.leaf, Tr.leaf)) :=
  loop_out cfgOK (f := i_impl_pairOfWord) (its := [.bool true, .res (.s (.v (.pr .tree .tree) dc1)) [] [] [], .res (.s (.v (.pr .tree .tree) dc2)) [] [] [], .res (.s (.v (.int .i64) dc3)) [] [] [], .bool true])
    (ps := [decide (x22 < x21) = true,
      0 ≤ x22,
      x22 < (List.length x20 : Int),
      SC cfg.P i_impl_letter [.s (.v (.int .i64) (List.getD x20 (x22).toNat (0 : Int)))] (.s (.v (.pr .tree .tree) dc1)) [],
      SC cfg.P i_impl_pair_times [.s (.v (.pr .tree .tree) xo4), .s (.v (.pr .tree .tree) dc1)] (.s (.v (.pr .tree .tree) dc2)) [],
      SC cfg.P i_impl_node_carets [.s (.v .tree dc2.1)] (.s (.v (.int .i64) dc3)) [],
      decide (dc3 > (8 : Int)) = true]) (by kernel_rfl) ⟨(decide_eq_true h1), h2, h3, h4, h5, h6, (decide_eq_true h7), trivial⟩ (fun h => by cases h)

theorem impl_pairOfWord_L1a_i2 (x20 : (List Int)) (x21 : Int) (x22 : Int) (xo2 : (Tr × Tr)) (xo4 : (Tr × Tr)) (dc1 : (Tr × Tr)) (dc2 : (Tr × Tr)) (dc3 : Int)
    (h1 : x22 < x21)
    (h2 : 0 ≤ x22)
    (h3 : x22 < (List.length x20 : Int))
    (h4 : SC cfg.P i_impl_letter [.s (.v (.int .i64) (List.getD x20 (x22).toNat (0 : Int)))] (.s (.v (.pr .tree .tree) dc1)) [])
    (h5 : SC cfg.P i_impl_pair_times [.s (.v (.pr .tree .tree) xo4), .s (.v (.pr .tree .tree) dc1)] (.s (.v (.pr .tree .tree) dc2)) [])
    (h6 : SC cfg.P i_impl_node_carets [.s (.v .tree dc2.1)] (.s (.v (.int .i64) dc3)) [])
    (h7 : ¬ (dc3 > (8 : Int)))
    {e : AEx} {st : St} (next : LoopSC cfg.P 1 (lb P_impl_pairOfWord 1) (impl_pairOfWord_L1a x20 x21 (IntKind.wrap .i64 (x22 + (1 : Int))) xo2 dc2) e st) :
    LoopSC cfg.P 1 (lb P_impl_pairOfWord 1) (impl_pairOfWord_L1a x20 x21 x22 xo2 xo4) e st :=
  loop_iter cfgOK (f := i_impl_pairOfWord) (its := [.bool true, .res (.s (.v (.pr .tree .tree) dc1)) [] [] [], .res (.s (.v (.pr .tree .tree) dc2)) [] [] [], .res (.s (.v (.int .i64) dc3)) [] [] [], .bool false])
    (ps := [decide (x22 < x21) = true,
      0 ≤ x22,
      x22 < (List.length x20 : Int),
      SC cfg.P i_impl_letter [.s (.v (.int .i64) (List.getD x20 (x22).toNat (0 : Int)))] (.s (.v (.pr .tree .tree) dc1)) [],
      SC cfg.P i_impl_pair_times [.s (.v (.pr .tree .tree) xo4), .s (.v (.pr .tree .tree) dc1)] (.s (.v (.pr .tree .tree) dc2)) [],
      SC cfg.P i_impl_node_carets [.s (.v .tree dc2.1)] (.s (.v (.int .i64) dc3)) [],
      decide (dc3 > (8 : Int)) = false]) (st1 := impl_pairOfWord_L1a x20 x21 (IntKind.wrap .i64 (x22 + (1 : Int))) xo2 dc2) (by kernel_rfl) ⟨(decide_eq_true h1), h2, h3, h4, h5, h6, (decide_eq_false h7), trivial⟩ next

theorem impl_pairOfWord_L1a_x3 (x20 : (List Int)) (x21 : Int) (x22 : Int) (xo2 : (Tr × Tr)) (xo4 : (Tr × Tr))
    (h1 : ¬ (x22 < x21)) :
    LoopSC cfg.P 1 (lb P_impl_pairOfWord 1) (impl_pairOfWord_L1a x20 x21 x22 xo2 xo4) (.exit 2) (impl_pairOfWord_L1X2 x20 x21 x22 false xo2 xo4) :=
  loop_out cfgOK (f := i_impl_pairOfWord) (its := [.bool false])
    (ps := [decide (x22 < x21) = false]) (by kernel_rfl) ⟨(decide_eq_false h1), trivial⟩ (fun h => by cases h)

theorem impl_pairOfWord_p1 (a0 : (List Int)) (k1y3 : Bool) (k1yo2 : (Tr × Tr))
    (h1 : LoopSC cfg.P 1 (lb P_impl_pairOfWord 0) (impl_pairOfWord_L0a a0 a0 ((List.length a0 : Nat) : Int) (0 : Int) (Tr.leaf, Tr.leaf) (Tr.leaf, Tr.leaf)) (.ret) (impl_pairOfWord_L0X1 k1y3 k1yo2)) :
    SC cfg.P i_impl_pairOfWord [.s (.v (.sl (.int .i64)) a0)] (.tup [.v (.pr .tree .tree) k1yo2, .v .bool k1y3]) [] :=
  SC_of_run cfgOK (its := [.loop (fun _ => (.ret, impl_pairOfWord_L0X1 k1y3 k1yo2))])
    (ps := [LoopSC cfg.P 1 (lb P_impl_pairOfWord 0) (impl_pairOfWord_L0a a0 a0 ((List.length a0 : Nat) : Int) (0 : Int) (Tr.leaf, Tr.leaf) (Tr.leaf, Tr.leaf)) (.ret) (impl_pairOfWord_L0X1 k1y3 k1yo2)]) (by kernel_rfl) ⟨h1, trivial⟩ get_impl_pairOfWord (by decide)

theorem impl_pairOfWord_p2 (a0 : (List Int)) (k1y0 : (List Int)) (k1y9 : (List Int)) (k1y10 : Int) (k1y11 : Int) (k1y12 : Bool) (k1yo2 : (Tr × Tr)) (k1yo4 : (Tr × Tr)) (k2y3 : Bool) (k2yo2 : (Tr × Tr))
    (h1 : LoopSC cfg.P 1 (lb P_impl_pairOfWord 0) (impl_pairOfWord_L0a a0 a0 ((List.length a0 : Nat) : Int) (0 : Int) (Tr.leaf, Tr.leaf) (Tr.leaf, Tr.leaf)) (.exit 0) (impl_pairOfWord_L0X2 k1y0 k1y9 k1y10 k1y11 k1y12 k1yo2 k1yo4))
    (h2 : LoopSC cfg.P 1 (lb P_impl_pairOfWord 1) (impl_pairOfWord_L1a k1y0 ((List.length k1y0 : Nat) : Int) (0 : Int) k1yo2 k1yo4) (.ret) (impl_pairOfWord_L1X1 k2y3 k2yo2)) :
    SC cfg.P i_impl_pairOfWord [.s (.v (.sl (.int .i64)) a0)] (.tup [.v (.pr .tree .tree) k2yo2, .v .bool k2y3]) [] :=
  SC_of_run cfgOK (its := [.loop (fun _ => (.exit 0, impl_pairOfWord_L0X2 k1y0 k1y9 k1y10 k1y11 k1y12 k1yo2 k1yo4)), .loop (fun _ => (.ret, impl_pairOfWord_L1X1 k2y3 k2yo2))])
    (ps := [LoopSC cfg.P 1 (lb P_impl_pairOfWord 0) (impl_pairOfWord_L0a a0 a0 ((List.length a0 : Nat) : Int) (0 : Int) (Tr.leaf, Tr.leaf) (Tr.leaf, Tr.leaf)) (.exit 0) (impl_pairOfWord_L0X2 k1y0 k1y9 k1y10 k1y11 k1y12 k1yo2 k1yo4),
      LoopSC cfg.P 1 (lb P_impl_pairOfWord 1) (impl_pairOfWord_L1a k1y0 ((List.length k1y0 : Nat) : Int) (0 : Int) k1yo2 k1yo4) (.ret) (impl_pairOfWord_L1X1 k2y3 k2yo2)]) (by kernel_rfl) ⟨h1, h2, trivial⟩ get_impl_pairOfWord (by decide)

theorem impl_pairOfWord_p3 (a0 : (List Int)) (k1y0 : (List Int)) (k1y9 : (List Int)) (k1y10 : Int) (k1y11 : Int) (k1y12 : Bool) (k1yo2 : (Tr × Tr)) (k1yo4 : (Tr × Tr)) (k2y20 : (List Int)) (k2y21 : Int) (k2y22 : Int) (k2y23 : Bool) (k2yo2 : (Tr × Tr)) (k2yo4 : (Tr × Tr))
    (h1 : LoopSC cfg.P 1 (lb P_impl_pairOfWord 0) (impl_pairOfWord_L0a a0 a0 ((List.length a0 : Nat) : Int) (0 : Int) (Tr.leaf, Tr.leaf) (Tr.leaf, Tr.leaf)) (.exit 0) (impl_pairOfWord_L0X2 k1y0 k1y9 k1y10 k1y11 k1y12 k1yo2 k1yo4))
    (h2 : LoopSC cfg.P 1 (lb P_impl_pairOfWord 1) (impl_pairOfWord_L1a k1y0 ((List.length k1y0 : Nat) : Int) (0 : Int) k1yo2 k1yo4) (.exit 2) (impl_pairOfWord_L1X2 k2y20 k2y21 k2y22 k2y23 k2yo2 k2yo4)) :
    SC cfg.P i_impl_pairOfWord [.s (.v (.sl (.int .i64)) a0)] (.tup [.v (.pr .tree .tree) k2yo4, .v .bool true]) [] :=
  SC_of_run cfgOK (its := [.loop (fun _ => (.exit 0, impl_pairOfWord_L0X2 k1y0 k1y9 k1y10 k1y11 k1y12 k1yo2 k1yo4)), .loop (fun _ => (.exit 2, impl_pairOfWord_L1X2 k2y20 k2y21 k2y22 k2y23 k2yo2 k2yo4))])
    (ps := [LoopSC cfg.P 1 (lb P_impl_pairOfWord 0) (impl_pairOfWord_L0a a0 a0 ((List.length a0 : Nat) : Int) (0 : Int) (Tr.leaf, Tr.leaf) (Tr.leaf, Tr.leaf)) (.exit 0) (impl_pairOfWord_L0X2 k1y0 k1y9 k1y10 k1y11 k1y12 k1yo2 k1yo4),
      LoopSC cfg.P 1 (lb P_impl_pairOfWord 1) (impl_pairOfWord_L1a k1y0 ((List.length k1y0 : Nat) : Int) (0 : Int) k1yo2 k1yo4) (.exit 2) (impl_pairOfWord_L1X2 k2y20 k2y21 k2y22 k2y23 k2yo2 k2yo4)]) (by kernel_rfl) ⟨h1, h2, trivial⟩ get_impl_pairOfWord (by decide)

/-! ### impl_letter -/


theorem impl_letter_p1 (a0 : Int) (c1 : Int) (c2 : (Tr × Tr)) (c3 : (Tr × Tr))
    (h1 : SC cfg.P i_impl_size [.s (.v (.int .i64) a0)] (.s (.v (.int .i64) c1)) [])
    (h2 : SC cfg.P i_impl_generator [.s (.v (.int .i64) (IntKind.wrap .i64 (c1 - (1 : Int))))] (.s (.v (.pr .tree .tree) c2)) [])
    (h3 : a0 < (0 : Int))
    (h4 : SC cfg.P i_impl_pair_inverse [.s (.v (.pr .tree .tree) c2)] (.s (.v (.pr .tree .tree) c3)) []) :
    SC cfg.P i_impl_letter [.s (.v (.int .i64) a0)] (.s (.v (.pr .tree .tree) c3)) [] :=
  SC_of_run cfgOK (its := [.res (.s (.v (.int .i64) c1)) [] [] [], .res (.s (.v (.pr .tree .tree) c2)) [] [] [], .bool true, .res (.s (.v (.pr .tree .tree) c3)) [] [] []])
    (ps := [SC cfg.P i_impl_size [.s (.v (.int .i64) a0)] (.s (.v (.int .i64) c1)) [],
      SC cfg.P i_impl_generator [.s (.v (.int .i64) (IntKind.wrap .i64 (c1 - (1 : Int))))] (.s (.v (.pr .tree .tree) c2)) [],
      decide (a0 < (0 : Int)) = true,
      SC cfg.P i_impl_pair_inverse [.s (.v (.pr .tree .tree) c2)] (.s (.v (.pr .tree .tree) c3)) []]) (by kernel_rfl) ⟨h1, h2, (decide_eq_true h3), h4, trivial⟩ get_impl_letter (by decide)

theorem impl_letter_p2 (a0 : Int) (c1 : Int) (c2 : (Tr × Tr))
    (h1 : SC cfg.P i_impl_size [.s (.v (.int .i64) a0)] (.s (.v (.int .i64) c1)) [])
    (h2 : SC cfg.P i_impl_generator [.s (.v (.int .i64) (IntKind.wrap .i64 (c1 - (1 : Int))))] (.s (.v (.pr .tree .tree) c2)) [])
    (h3 : ¬ (a0 < (0 : Int))) :
    SC cfg.P i_impl_letter [.s (.v (.int .i64) a0)] (.s (.v (.pr .tree .tree) c2)) [] :=
  SC_of_run cfgOK (its := [.res (.s (.v (.int .i64) c1)) [] [] [], .res (.s (.v (.pr .tree .tree) c2)) [] [] [], .bool false])
    (ps := [SC cfg.P i_impl_size [.s (.v (.int .i64) a0)] (.s (.v (.int .i64) c1)) [],
      SC cfg.P i_impl_generator [.s (.v (.int .i64) (IntKind.wrap .i64 (c1 - (1 : Int))))] (.s (.v (.pr .tree .tree) c2)) [],
      decide (a0 < (0 : Int)) = false]) (by kernel_rfl) ⟨h1, h2, (decide_eq_false h3), trivial⟩ get_impl_letter (by decide)

/-! ### spec_prGenerator -/


theorem spec_prGenerator_p1 (a0 : Int) (c1 : ByteArray) (c2 : ByteArray) (c3 : ByteArray)
    (h1 : SC cfg.P i_spec_trRight [.s (.v (.int .i64) a0)] (.s (.v .str c1)) [])
    (h2 : SC cfg.P i_spec_trGraft [.s (.v .str c1), .s (.v (.int .i64) a0), .s (.v .str (⟨#[40, 40, 46, 46, 41, 46, 41]⟩ : ByteArray))] (.s (.v .str c2)) [])
    (h3 : SC cfg.P i_spec_trRight [.s (.v (.int .i64) (IntKind.wrap .i64 (a0 + (2 : Int))))] (.s (.v .str c3)) []) :
    SC cfg.P i_spec_prGenerator [.s (.v (.int .i64) a0)] (.s (.v (.pr .str .str) (c2, c3))) [] :=
  SC_of_run cfgOK (its := [.res (.s (.v .str c1)) [] [] [], .res (.s (.v .str c2)) [] [] [], .res (.s (.v .str c3)) [] [] []])
    (ps := [SC cfg.P i_spec_trRight [.s (.v (.int .i64) a0)] (.s (.v .str c1)) [],
      SC cfg.P i_spec_trGraft [.s (.v .str c1), .s (.v (.int .i64) a0), .s (.v .str (⟨#[40, 40, 46, 46, 41, 46, 41]⟩ : ByteArray))] (.s (.v .str c2)) [],
      SC cfg.P i_spec_trRight [.s (.v (.int .i64) (IntKind.wrap .i64 (a0 + (2 : Int))))] (.s (.v .str c3)) []]) (by kernel_rfl) ⟨h1, h2, h3, trivial⟩ get_spec_prGenerator (by decide)

/-! ### impl_size -/


theorem impl_size_p1 (a0 : Int)
     :
    SC cfg.P i_impl_size [.s (.v (.int .i64) a0)] (.s (.v (.int .i64) (maxI a0 (IntKind.wrap .i64 (0 - a0))))) [] :=
  SC_of_run cfgOK (its := [])
    (ps := []) (by kernel_rfl) trivial get_impl_size (by decide)

/-! ### impl_generator -/


theorem impl_generator_p1 (a0 : Int) (c1 : Tr) (c2 : Tr) (c3 : Tr)
    (h1 : SC cfg.P i_impl_rightComb [.s (.v (.int .i64) a0)] (.s (.v .tree c1)) [])
    (h2 : SC cfg.P i_impl_node_graft [.s (.v .tree c1), .s (.v (.int .i64) a0), .s (.v .tree (Tr.node (Tr.node Tr.leaf Tr.leaf) Tr.leaf))] (.s (.v .tree c2)) [])
    (h3 : SC cfg.P i_impl_rightComb [.s (.v (.int .i64) (IntKind.wrap .i64 (a0 + (2 : Int))))] (.s (.v .tree c3)) []) :
    SC cfg.P i_impl_generator [.s (.v (.int .i64) a0)] (.s (.v (.pr .tree .tree) (c2, c3))) [] :=
  SC_of_run cfgOK (its := [.res (.s (.v .tree c1)) [] [] [], .res (.s (.v .tree c2)) [] [] [], .res (.s (.v .tree c3)) [] [] []])
    (ps := [SC cfg.P i_impl_rightComb [.s (.v (.int .i64) a0)] (.s (.v .tree c1)) [],
      SC cfg.P i_impl_node_graft [.s (.v .tree c1), .s (.v (.int .i64) a0), .s (.v .tree (Tr.node (Tr.node Tr.leaf Tr.leaf) Tr.leaf))] (.s (.v .tree c2)) [],
      SC cfg.P i_impl_rightComb [.s (.v (.int .i64) (IntKind.wrap .i64 (a0 + (2 : Int))))] (.s (.v .tree c3)) []]) (by kernel_rfl) ⟨h1, h2, h3, trivial⟩ get_impl_generator (by decide)

/-! ### spec_trGraft -/


def spec_trGraft_L0a (x0 : ByteArray) (x1 : Int) (x2 : ByteArray) (x7 : Int) (x8 : Int) : St := mkSt 35 [(0, .s (.v .str x0)), (1, .s (.v (.int .i64) x1)), (2, .s (.v .str x2)), (7, .s (.v (.int .i64) x7)), (8, .s (.v (.int .i64) x8))] []

def spec_trGraft_L0X1 (y6 : ByteArray) : St := mkSt 35 [(6, .s (.v .str y6))] []

def spec_trGraft_L0X2 (y0 : ByteArray) (y1 : Int) (y2 : ByteArray) (y7 : Int) (y8 : Int) (y12 : Bool) : St := mkSt 35 [(0, .s (.v .str y0)), (1, .s (.v (.int .i64) y1)), (2, .s (.v .str y2)), (7, .s (.v (.int .i64) y7)), (8, .s (.v (.int .i64) y8)), (12, .s (.v .bool y12))] []

theorem spec_trGraft_L0a_x1 (x0 : ByteArray) (x1 : Int) (x2 : ByteArray) (x7 : Int) (x8 : Int)
    (h1 : x8 < ((x0).size : Int))
    (h2 : 0 ≤ x8)
    (h3 : (bt x0 x8) = (46 : Int))
    (h4 : (IntKind.wrap .i64 (x7 + (1 : Int))) = x1)
    (h5 : x8 ≤ ((x0).size : Int))
    (h6 : ((ByteArray.extract x0 ((0 : Int)).toNat (x8).toNat)).size + (x2).size ≤ 2 ^ 62)
    (h7 : 0 ≤ (IntKind.wrap .i64 (x8 + (1 : Int))))
    (h8 : (IntKind.wrap .i64 (x8 + (1 : Int))) ≤ ((x0).size : Int))
    (h9 : (((ByteArray.extract x0 ((0 : Int)).toNat (x8).toNat) ++ x2)).size + ((ByteArray.extract x0 ((IntKind.wrap .i64 (x8 + (1 : Int)))).toNat (((x0).size : Int)).toNat)).size ≤ 2 ^ 62) :
    LoopSC cfg.P 3 (lb P_spec_trGraft 0) (spec_trGraft_L0a x0 x1 x2 x7 x8) (.ret) (spec_trGraft_L0X1 (((ByteArray.extract x0 ((0 : Int)).toNat (x8).toNat) ++ x2) ++ (ByteArray.extract x0 ((IntKind.wrap .i64 (x8 + (1 : Int)))).toNat (((x0).size : Int)).toNat))) :=
  loop_out cfgOK (f := i_spec_trGraft) (its := [.bool true, .bool true, .bool true])
    (ps := [decide (x8 < ((x0).size : Int)) = true,
      0 ≤ x8,
      x8 < ((x0).size : Int),
      ((bt x0 x8) == (46 : Int)) = true,
      ((IntKind.wrap .i64 (x7 + (1 : Int))) == x1) = true,
      0 ≤ x8,
      x8 ≤ ((x0).size : Int),
      ((ByteArray.extract x0 ((0 : Int)).toNat (x8).toNat)).size + (x2).size ≤ 2 ^ 62,
      0 ≤ (IntKind.wrap .i64 (x8 + (1 : Int))),
      (IntKind.wrap .i64 (x8 + (1 : Int))) ≤ ((x0).size : Int),
      (((ByteArray.extract x0 ((0 : Int)).toNat (x8).toNat) ++ x2)).size + ((ByteArray.extract x0 ((IntKind.wrap .i64 (x8 + (1 : Int)))).toNat (((x0).size : Int)).toNat)).size ≤ 2 ^ 62]) (by kernel_rfl) ⟨(decide_eq_true h1), h2, h1, (beq_t h3), (beq_t h4), h2, h5, h6, h7, h8, h9, trivial⟩ (fun h => by cases h)

theorem spec_trGraft_L0a_i2 (x0 : ByteArray) (x1 : Int) (x2 : ByteArray) (x7 : Int) (x8 : Int)
    (h1 : x8 < ((x0).size : Int))
    (h2 : 0 ≤ x8)
    (h3 : (bt x0 x8) = (46 : Int))
    (h4 : (IntKind.wrap .i64 (x7 + (1 : Int))) ≠ x1)
    {e : AEx} {st : St} (next : LoopSC cfg.P 3 (lb P_spec_trGraft 0) (spec_trGraft_L0a x0 x1 x2 (IntKind.wrap .i64 (x7 + (1 : Int))) (IntKind.wrap .i64 (x8 + (1 : Int)))) e st) :
    LoopSC cfg.P 3 (lb P_spec_trGraft 0) (spec_trGraft_L0a x0 x1 x2 x7 x8) e st :=
  loop_iter cfgOK (f := i_spec_trGraft) (its := [.bool true, .bool true, .bool false])
    (ps := [decide (x8 < ((x0).size : Int)) = true,
      0 ≤ x8,
      x8 < ((x0).size : Int),
      ((bt x0 x8) == (46 : Int)) = true,
      ((IntKind.wrap .i64 (x7 + (1 : Int))) == x1) = false]) (st1 := spec_trGraft_L0a x0 x1 x2 (IntKind.wrap .i64 (x7 + (1 : Int))) (IntKind.wrap .i64 (x8 + (1 : Int)))) (by kernel_rfl) ⟨(decide_eq_true h1), h2, h1, (beq_t h3), (beq_f h4), trivial⟩ next

theorem spec_trGraft_L0a_x3 (x0 : ByteArray) (x1 : Int) (x2 : ByteArray) (x7 : Int) (x8 : Int)
    (h1 : x8 < ((x0).size : Int))
    (h2 : 0 ≤ x8)
    (h3 : (bt x0 x8) ≠ (46 : Int))
    (h4 : x7 = x1)
    (h5 : x8 ≤ ((x0).size : Int))
    (h6 : ((ByteArray.extract x0 ((0 : Int)).toNat (x8).toNat)).size + (x2).size ≤ 2 ^ 62)
    (h7 : 0 ≤ (IntKind.wrap .i64 (x8 + (1 : Int))))
    (h8 : (IntKind.wrap .i64 (x8 + (1 : Int))) ≤ ((x0).size : Int))
    (h9 : (((ByteArray.extract x0 ((0 : Int)).toNat (x8).toNat) ++ x2)).size + ((ByteArray.extract x0 ((IntKind.wrap .i64 (x8 + (1 : Int)))).toNat (((x0).size : Int)).toNat)).size ≤ 2 ^ 62) :
    LoopSC cfg.P 3 (lb P_spec_trGraft 0) (spec_trGraft_L0a x0 x1 x2 x7 x8) (.ret) (spec_trGraft_L0X1 (((ByteArray.extract x0 ((0 : Int)).toNat (x8).toNat) ++ x2) ++ (ByteArray.extract x0 ((IntKind.wrap .i64 (x8 + (1 : Int)))).toNat (((x0).size : Int)).toNat))) :=
  loop_out cfgOK (f := i_spec_trGraft) (its := [.bool true, .bool false, .bool true])
    (ps := [decide (x8 < ((x0).size : Int)) = true,
      0 ≤ x8,
      x8 < ((x0).size : Int),
      ((bt x0 x8) == (46 : Int)) = false,
      (x7 == x1) = true,
      0 ≤ x8,
      x8 ≤ ((x0).size : Int),
      ((ByteArray.extract x0 ((0 : Int)).toNat (x8).toNat)).size + (x2).size ≤ 2 ^ 62,
      0 ≤ (IntKind.wrap .i64 (x8 + (1 : Int))),
      (IntKind.wrap .i64 (x8 + (1 : Int))) ≤ ((x0).size : Int),
      (((ByteArray.extract x0 ((0 : Int)).toNat (x8).toNat) ++ x2)).size + ((ByteArray.extract x0 ((IntKind.wrap .i64 (x8 + (1 : Int)))).toNat (((x0).size : Int)).toNat)).size ≤ 2 ^ 62]) (by kernel_rfl) ⟨(decide_eq_true h1), h2, h1, (beq_f h3), (beq_t h4), h2, h5, h6, h7, h8, h9, trivial⟩ (fun h => by cases h)

theorem spec_trGraft_L0a_i4 (x0 : ByteArray) (x1 : Int) (x2 : ByteArray) (x7 : Int) (x8 : Int)
    (h1 : x8 < ((x0).size : Int))
    (h2 : 0 ≤ x8)
    (h3 : (bt x0 x8) ≠ (46 : Int))
    (h4 : x7 ≠ x1)
    {e : AEx} {st : St} (next : LoopSC cfg.P 3 (lb P_spec_trGraft 0) (spec_trGraft_L0a x0 x1 x2 x7 (IntKind.wrap .i64 (x8 + (1 : Int)))) e st) :
    LoopSC cfg.P 3 (lb P_spec_trGraft 0) (spec_trGraft_L0a x0 x1 x2 x7 x8) e st :=
  loop_iter cfgOK (f := i_spec_trGraft) (its := [.bool true, .bool false, .bool false])
    (ps := [decide (x8 < ((x0).size : Int)) = true,
      0 ≤ x8,
      x8 < ((x0).size : Int),
      ((bt x0 x8) == (46 : Int)) = false,
      (x7 == x1) = false]) (st1 := spec_trGraft_L0a x0 x1 x2 x7 (IntKind.wrap .i64 (x8 + (1 : Int)))) (by kernel_rfl) ⟨(decide_eq_true h1), h2, h1, (beq_f h3), (beq_f h4), trivial⟩ next

theorem spec_trGraft_L0a_x5 (x0 : ByteArray) (x1 : Int) (x2 : ByteArray) (x7 : Int) (x8 : Int)
    (h1 : ¬ (x8 < ((x0).size : Int))) :
    LoopSC cfg.P 3 (lb P_spec_trGraft 0) (spec_trGraft_L0a x0 x1 x2 x7 x8) (.exit 0) (spec_trGraft_L0X2 x0 x1 x2 x7 x8 false) :=
  loop_out cfgOK (f := i_spec_trGraft) (its := [.bool false])
    (ps := [decide (x8 < ((x0).size : Int)) = false]) (by kernel_rfl) ⟨(decide_eq_false h1), trivial⟩ (fun h => by cases h)

theorem spec_trGraft_p1 (a0 : ByteArray) (a1 : Int) (a2 : ByteArray) (k1y6 : ByteArray)
    (h1 : LoopSC cfg.P 3 (lb P_spec_trGraft 0) (spec_trGraft_L0a a0 a1 a2 (-1 : Int) (0 : Int)) (.ret) (spec_trGraft_L0X1 k1y6)) :
    SC cfg.P i_spec_trGraft [.s (.v .str a0), .s (.v (.int .i64) a1), .s (.v .str a2)] (.s (.v .str k1y6)) [] :=
  SC_of_run cfgOK (its := [.loop (fun _ => (.ret, spec_trGraft_L0X1 k1y6))])
    (ps := [LoopSC cfg.P 3 (lb P_spec_trGraft 0) (spec_trGraft_L0a a0 a1 a2 (-1 : Int) (0 : Int)) (.ret) (spec_trGraft_L0X1 k1y6)]) (by kernel_rfl) ⟨h1, trivial⟩ get_spec_trGraft (by decide)

theorem spec_trGraft_p2 (a0 : ByteArray) (a1 : Int) (a2 : ByteArray) (k1y0 : ByteArray) (k1y1 : Int) (k1y2 : ByteArray) (k1y7 : Int) (k1y8 : Int) (k1y12 : Bool)
    (h1 : LoopSC cfg.P 3 (lb P_spec_trGraft 0) (spec_trGraft_L0a a0 a1 a2 (-1 : Int) (0 : Int)) (.exit 0) (spec_trGraft_L0X2 k1y0 k1y1 k1y2 k1y7 k1y8 k1y12)) :
    SC cfg.P i_spec_trGraft [.s (.v .str a0), .s (.v (.int .i64) a1), .s (.v .str a2)] (.s (.v .str k1y0)) [] :=
  SC_of_run cfgOK (its := [.loop (fun _ => (.exit 0, spec_trGraft_L0X2 k1y0 k1y1 k1y2 k1y7 k1y8 k1y12))])
    (ps := [LoopSC cfg.P 3 (lb P_spec_trGraft 0) (spec_trGraft_L0a a0 a1 a2 (-1 : Int) (0 : Int)) (.exit 0) (spec_trGraft_L0X2 k1y0 k1y1 k1y2 k1y7 k1y8 k1y12)]) (by kernel_rfl) ⟨h1, trivial⟩ get_spec_trGraft (by decide)

/-! ### impl_node_graft -/


theorem impl_node_graft_p1 (a0 : Tr) (a1 : Int) (a2 : Tr) (c1 : Tr)
    (h1 : SC cfg.P i_impl_node_grown [.s (.v .tree a0), .s (.v (.int .i64) (0 : Int)), .fn i_impl_node_graft_k1 [] [.fadr (.int .i64) a1, .fadr .tree a2]] (.s (.v .tree c1)) []) :
    SC cfg.P i_impl_node_graft [.s (.v .tree a0), .s (.v (.int .i64) a1), .s (.v .tree a2)] (.s (.v .tree c1)) [] :=
  SC_of_run cfgOK (its := [.res (.s (.v .tree c1)) [] [] []])
    (ps := [SC cfg.P i_impl_node_grown [.s (.v .tree a0), .s (.v (.int .i64) (0 : Int)), .fn i_impl_node_graft_k1 [] [.fadr (.int .i64) a1, .fadr .tree a2]] (.s (.v .tree c1)) []]) (by kernel_rfl) ⟨h1, trivial⟩ get_impl_node_graft (by decide)

end Go.AI
