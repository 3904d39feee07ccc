/- A part of the road: what it proves stands in its last texts. -/
import Derived.Test.YtmoodcnoncipiaaSIds
import Derived.Test.YtmoodcnoncipiaaProg
set_option autoImplicit false
set_option maxRecDepth 100000
set_option linter.unusedVariables false
namespace Go.AI
open Go.Proofs

/-! ### laws_FnExactReduceBy -/


theorem laws_FnExactReduceBy_p1 (a0 : (ByteArray × ByteArray)) (a1 : (List Int))
    (h1 : ((List.length a1 : Nat) : Int) > (1048576 : Int)) :
    SC cfg.P i_laws_FnExactReduceBy [.s (.v (.pr .str .str) a0), .s (.v (.sl (.int .i64)) a1)] (.s (.v .bool true)) [] :=
  SC_of_run cfgOK (its := [.bool true])
    (ps := [decide (((List.length a1 : Nat) : Int) > (1048576 : Int)) = true]) (by kernel_rfl) ⟨(decide_eq_true h1), trivial⟩ get_laws_FnExactReduceBy (by decide)

theorem laws_FnExactReduceBy_p2 (a0 : (ByteArray × ByteArray)) (a1 : (List Int)) (c1 : Int)
    (h1 : ¬ (((List.length a1 : Nat) : Int) > (1048576 : Int)))
    (h2 : SC cfg.P i_laws_szPair [.s (.v (.pr .str .str) a0), .s (.v (.int .i64) (1048576 : Int))] (.s (.v (.int .i64) c1)) [])
    (h3 : c1 < (0 : Int)) :
    SC cfg.P i_laws_FnExactReduceBy [.s (.v (.pr .str .str) a0), .s (.v (.sl (.int .i64)) a1)] (.s (.v .bool true)) [] :=
  SC_of_run cfgOK (its := [.bool false, .res (.s (.v (.int .i64) c1)) [] [] [], .bool true])
    (ps := [decide (((List.length a1 : Nat) : Int) > (1048576 : Int)) = false,
      SC cfg.P i_laws_szPair [.s (.v (.pr .str .str) a0), .s (.v (.int .i64) (1048576 : Int))] (.s (.v (.int .i64) c1)) [],
      decide (c1 < (0 : Int)) = true]) (by kernel_rfl) ⟨(decide_eq_false h1), h2, (decide_eq_true h3), trivial⟩ get_laws_FnExactReduceBy (by decide)

theorem laws_FnExactReduceBy_p3 (a0 : (ByteArray × ByteArray)) (a1 : (List Int)) (c1 : Int) (c2 : (ByteArray × ByteArray)) (c3 : (List Int)) (c4a : (ByteArray × ByteArray)) (c4b : Bool) (c5 : (List Int)) (c6 : (ByteArray × ByteArray)) (c7a : (ByteArray × ByteArray)) (c7b : Bool) (c9 : (List Int))
    (h1 : ¬ (((List.length a1 : Nat) : Int) > (1048576 : Int)))
    (h2 : SC cfg.P i_laws_szPair [.s (.v (.pr .str .str) a0), .s (.v (.int .i64) (1048576 : Int))] (.s (.v (.int .i64) c1)) [])
    (h3 : ¬ (c1 < (0 : Int)))
    (h4 : SC cfg.P i_laws_toPair [.s (.v (.pr .str .str) a0)] (.s (.v (.pr .str .str) c2)) [])
    (h5 : SC cfg.P i_laws_toIntS [.s (.v (.sl (.int .i64)) a1)] (.s (.own t_int (.int .i64) c3)) [])
    (h6 : SC cfg.P i_spec_ReduceBy [.s (.v (.pr .str .str) c2), .s (.v (.sl (.int .i64)) c3)] (.tup [.v (.pr .str .str) c4a, .v .bool c4b]) [])
    (h7 : SC cfg.P i_laws_toIntS [.s (.v (.sl (.int .i64)) a1)] (.s (.own t_int (.int .i64) c5)) [])
    (h8 : SC cfg.P i_laws_toPair [.s (.v (.pr .str .str) a0)] (.s (.v (.pr .str .str) c6)) [])
    (h9 : SC cfg.P i_impl_ReduceBy [.s (.v (.pr .str .str) c6), .s (.v (.sl (.int .i64)) c5)] (.tup [.v (.pr .str .str) c7a, .v .bool c7b]) [])
    (h10 : SC cfg.P i_laws_eqPair [.s (.v (.pr .str .str) c7a), .s (.v (.pr .str .str) c4a)] (.s (.v .bool true)) [])
    (h11 : (!(c7b == c4b)) = false)
    (h12 : SC cfg.P i_laws_toIntS [.s (.v (.sl (.int .i64)) a1)] (.s (.own t_int (.int .i64) c9)) [])
    (h13 : SC cfg.P i_laws_eqIntS [.s (.v (.sl (.int .i64)) c5), .s (.v (.sl (.int .i64)) c9)] (.s (.v .bool true)) []) :
    SC cfg.P i_laws_FnExactReduceBy [.s (.v (.pr .str .str) a0), .s (.v (.sl (.int .i64)) a1)] (.s (.v .bool true)) [] :=
  SC_of_run cfgOK (its := [.bool false, .res (.s (.v (.int .i64) c1)) [] [] [], .bool false, .res (.s (.v (.pr .str .str) c2)) [] [] [], .res (.s (.own t_int (.int .i64) c3)) [] [] [23], .res (.tup [.v (.pr .str .str) c4a, .v .bool c4b]) [] [] [], .res (.s (.own t_int (.int .i64) c5)) [] [] [28], .res (.s (.v (.pr .str .str) c6)) [] [] [], .res (.tup [.v (.pr .str .str) c7a, .v .bool c7b]) [] [] [], .res (.s (.v .bool true)) [] [] [], .bool false, .res (.s (.own t_int (.int .i64) c9)) [] [] [47], .res (.s (.v .bool true)) [] [] []])
    (ps := [decide (((List.length a1 : Nat) : Int) > (1048576 : Int)) = false,
      SC cfg.P i_laws_szPair [.s (.v (.pr .str .str) a0), .s (.v (.int .i64) (1048576 : Int))] (.s (.v (.int .i64) c1)) [],
      decide (c1 < (0 : Int)) = false,
      SC cfg.P i_laws_toPair [.s (.v (.pr .str .str) a0)] (.s (.v (.pr .str .str) c2)) [],
      SC cfg.P i_laws_toIntS [.s (.v (.sl (.int .i64)) a1)] (.s (.own t_int (.int .i64) c3)) [],
      SC cfg.P i_spec_ReduceBy [.s (.v (.pr .str .str) c2), .s (.v (.sl (.int .i64)) c3)] (.tup [.v (.pr .str .str) c4a, .v .bool c4b]) [],
      SC cfg.P i_laws_toIntS [.s (.v (.sl (.int .i64)) a1)] (.s (.own t_int (.int .i64) c5)) [],
      SC cfg.P i_laws_toPair [.s (.v (.pr .str .str) a0)] (.s (.v (.pr .str .str) c6)) [],
      SC cfg.P i_impl_ReduceBy [.s (.v (.pr .str .str) c6), .s (.v (.sl (.int .i64)) c5)] (.tup [.v (.pr .str .str) c7a, .v .bool c7b]) [],
      SC cfg.P i_laws_eqPair [.s (.v (.pr .str .str) c7a), .s (.v (.pr .str .str) c4a)] (.s (.v .bool true)) [],
      (!(c7b == c4b)) = false,
      SC cfg.P i_laws_toIntS [.s (.v (.sl (.int .i64)) a1)] (.s (.own t_int (.int .i64) c9)) [],
      SC cfg.P i_laws_eqIntS [.s (.v (.sl (.int .i64)) c5), .s (.v (.sl (.int .i64)) c9)] (.s (.v .bool true)) []]) (by kernel_rfl) ⟨(decide_eq_false h1), h2, (decide_eq_false h3), h4, h5, h6, h7, h8, h9, h10, h11, h12, h13, trivial⟩ get_laws_FnExactReduceBy (by decide)

/-! ### spec_ReduceBy -/


theorem spec_ReduceBy_p1 (a0 : (ByteArray × ByteArray)) (a1 : (List Int)) (c3 : (ByteArray × ByteArray))
    (h1 : SC cfg.P i_spec_prGood [.s (.v (.pr .str .str) a0)] (.s (.v .bool true)) [])
    (h2 : SC cfg.P i_spec_prChoices [.s (.v (.sl (.int .i64)) a1)] (.s (.v .bool true)) [])
    (h3 : SC cfg.P i_spec_prReduce [.s (.v (.pr .str .str) a0), .s (.v (.sl (.int .i64)) a1)] (.s (.v (.pr .str .str) c3)) []) :
    SC cfg.P i_spec_ReduceBy [.s (.v (.pr .str .str) a0), .s (.v (.sl (.int .i64)) a1)] (.tup [.v (.pr .str .str) c3, .v .bool true]) [] :=
  SC_of_run cfgOK (its := [.res (.s (.v .bool true)) [] [] [], .res (.s (.v .bool true)) [] [] [], .res (.s (.v (.pr .str .str) c3)) [] [] []])
    (ps := [SC cfg.P i_spec_prGood [.s (.v (.pr .str .str) a0)] (.s (.v .bool true)) [],
      SC cfg.P i_spec_prChoices [.s (.v (.sl (.int .i64)) a1)] (.s (.v .bool true)) [],
      SC cfg.P i_spec_prReduce [.s (.v (.pr .str .str) a0), .s (.v (.sl (.int .i64)) a1)] (.s (.v (.pr .str .str) c3)) []]) (by kernel_rfl) ⟨h1, h2, h3, trivial⟩ get_spec_ReduceBy (by decide)

theorem spec_ReduceBy_p2 (a0 : (ByteArray × ByteArray)) (a1 : (List Int))
    (h1 : SC cfg.P i_spec_prGood [.s (.v (.pr .str .str) a0)] (.s (.v .bool true)) [])
    (h2 : SC cfg.P i_spec_prChoices [.s (.v (.sl (.int .i64)) a1)] (.s (.v .bool false)) []) :
    SC cfg.P i_spec_ReduceBy [.s (.v (.pr .str .str) a0), .s (.v (.sl (.int .i64)) a1)] (.tup [.v (.pr .str .str) ((⟨#[]⟩ : ByteArray), (⟨#[]⟩ : ByteArray)), .v .bool false]) [] :=
  SC_of_run cfgOK (its := [.res (.s (.v .bool true)) [] [] [], .res (.s (.v .bool false)) [] [] []])
    (ps := [SC cfg.P i_spec_prGood [.s (.v (.pr .str .str) a0)] (.s (.v .bool true)) [],
      SC cfg.P i_spec_prChoices [.s (.v (.sl (.int .i64)) a1)] (.s (.v .bool false)) []]) (by kernel_rfl) ⟨h1, h2, trivial⟩ get_spec_ReduceBy (by decide)

theorem spec_ReduceBy_p3 (a0 : (ByteArray × ByteArray)) (a1 : (List Int))
    (h1 : SC cfg.P i_spec_prGood [.s (.v (.pr .str .str) a0)] (.s (.v .bool false)) []) :
    SC cfg.P i_spec_ReduceBy [.s (.v (.pr .str .str) a0), .s (.v (.sl (.int .i64)) a1)] (.tup [.v (.pr .str .str) ((⟨#[]⟩ : ByteArray), (⟨#[]⟩ : ByteArray)), .v .bool false]) [] :=
  SC_of_run cfgOK (its := [.res (.s (.v .bool false)) [] [] []])
    (ps := [SC cfg.P i_spec_prGood [.s (.v (.pr .str .str) a0)] (.s (.v .bool false)) []]) (by kernel_rfl) ⟨h1, trivial⟩ get_spec_ReduceBy (by decide)

/-! ### laws_toIntS -/


def laws_toIntS_L0a (x0 : (List Int)) (x4 : Int) (xo7 : (List Int)) : St := mkSt 22 [(0, .s (.v (.sl (.int .i64)) x0)), (3, .s (.osl 7 0)), (4, .s (.v (.int .i64) x4))] [(7, .row t_int (.int .i64) xo7 0 false)]

def laws_toIntS_L0X1 (y0 : (List Int)) (y4 : Int) (y11 : Bool) (yo7 : (List Int)) : St := mkSt 22 [(0, .s (.v (.sl (.int .i64)) y0)), (3, .s (.osl 7 0)), (4, .s (.v (.int .i64) y4)), (11, .s (.v .bool y11))] [(7, .row t_int (.int .i64) yo7 0 false)]

theorem laws_toIntS_L0a_i1 (x0 : (List Int)) (x4 : Int) (xo7 : (List Int))
    (h1 : x4 < ((List.length x0 : Nat) : Int))
    (h2 : 0 ≤ x4)
    (h3 : x4 < (List.length x0 : Int))
    (h4 : x4 < (List.length xo7 : Int))
    (h5 : (x4).toNat < List.length xo7)
    {e : AEx} {st : St} (next : LoopSC cfg.P 1 (lb P_laws_toIntS 0) (laws_toIntS_L0a x0 (IntKind.wrap .i64 (x4 + (1 : Int))) (List.set xo7 (x4).toNat (List.getD x0 (x4).toNat (0 : Int)))) e st) :
    LoopSC cfg.P 1 (lb P_laws_toIntS 0) (laws_toIntS_L0a x0 x4 xo7) e st :=
  loop_iter cfgOK (f := i_laws_toIntS) (its := [.bool true])
    (ps := [decide (x4 < ((List.length x0 : Nat) : Int)) = true,
      0 ≤ x4,
      x4 < (List.length x0 : Int),
      0 ≤ x4,
      x4 < (List.length xo7 : Int),
      (x4).toNat < List.length xo7]) (st1 := laws_toIntS_L0a x0 (IntKind.wrap .i64 (x4 + (1 : Int))) (List.set xo7 (x4).toNat (List.getD x0 (x4).toNat (0 : Int)))) (by kernel_rfl) ⟨(decide_eq_true h1), h2, h3, h2, h4, h5, trivial⟩ next

theorem laws_toIntS_L0a_x2 (x0 : (List Int)) (x4 : Int) (xo7 : (List Int))
    (h1 : ¬ (x4 < ((List.length x0 : Nat) : Int))) :
    LoopSC cfg.P 1 (lb P_laws_toIntS 0) (laws_toIntS_L0a x0 x4 xo7) (.exit 0) (laws_toIntS_L0X1 x0 x4 false xo7) :=
  loop_out cfgOK (f := i_laws_toIntS) (its := [.bool false])
    (ps := [decide (x4 < ((List.length x0 : Nat) : Int)) = false]) (by kernel_rfl) ⟨(decide_eq_false h1), trivial⟩ (fun h => by cases h)

theorem laws_toIntS_p1 (a0 : (List Int)) (k1y0 : (List Int)) (k1y4 : Int) (k1y11 : Bool) (k1yo7 : (List Int))
    (h1 : 0 ≤ ((List.length a0 : Nat) : Int))
    (h2 : ((List.length a0 : Nat) : Int) ≤ (lim : Int))
    (h3 : ((List.length a0 : Nat) : Int) = ((List.length a0 : Nat) : Int))
    (h4 : LoopSC cfg.P 1 (lb P_laws_toIntS 0) (laws_toIntS_L0a a0 (0 : Int) (List.replicate (((List.length a0 : Nat) : Int)).toNat (0 : Int))) (.exit 0) (laws_toIntS_L0X1 k1y0 k1y4 k1y11 k1yo7)) :
    SC cfg.P i_laws_toIntS [.s (.v (.sl (.int .i64)) a0)] (.s (.own t_int (.int .i64) k1yo7)) [] :=
  SC_of_run cfgOK (its := [.loop (fun _ => (.exit 0, laws_toIntS_L0X1 k1y0 k1y4 k1y11 k1yo7))])
    (ps := [0 ≤ ((List.length a0 : Nat) : Int),
      ((List.length a0 : Nat) : Int) ≤ (lim : Int),
      ((List.length a0 : Nat) : Int) = ((List.length a0 : Nat) : Int),
      LoopSC cfg.P 1 (lb P_laws_toIntS 0) (laws_toIntS_L0a a0 (0 : Int) (List.replicate (((List.length a0 : Nat) : Int)).toNat (0 : Int))) (.exit 0) (laws_toIntS_L0X1 k1y0 k1y4 k1y11 k1yo7)]) (by kernel_rfl) ⟨h1, h2, h3, h4, trivial⟩ get_laws_toIntS (by decide)

/-! ### impl_ReduceBy -/


def impl_ReduceBy_L0a (x1 : (List Int)) (x25 : (List Int)) (x26 : Int) (x27 : Int) (xo4 : (ByteArray × ByteArray)) (xo6 : (Tr × Tr)) : St := mkSt 59 [(1, .s (.v (.sl (.int .i64)) x1)), (4, .s (.adr 4 none)), (6, .s (.adr 6 none)), (25, .s (.v (.sl (.int .i64)) x25)), (26, .s (.v (.int .i64) x26)), (27, .s (.v (.int .i64) x27))] [(4, .box (.pr .str .str) xo4 false), (6, .box (.pr .tree .tree) xo6 false)]

def impl_ReduceBy_L0X1 (y5 : Bool) (yo4 : (ByteArray × ByteArray)) : St := mkSt 59 [(4, .s (.adr 4 none)), (5, .s (.v .bool y5))] [(4, .box (.pr .str .str) yo4 false)]

def impl_ReduceBy_L0X2 (y1 : (List Int)) (y25 : (List Int)) (y26 : Int) (y27 : Int) (y28 : Bool) (yo4 : (ByteArray × ByteArray)) (yo6 : (Tr × Tr)) : St := mkSt 59 [(1, .s (.v (.sl (.int .i64)) y1)), (4, .s (.adr 4 none)), (6, .s (.adr 6 none)), (25, .s (.v (.sl (.int .i64)) y25)), (26, .s (.v (.int .i64) y26)), (27, .s (.v (.int .i64) y27)), (28, .s (.v .bool y28))] [(4, .box (.pr .str .str) yo4 false), (6, .box (.pr .tree .tree) yo6 false)]

def impl_ReduceBy_L1a (x1 : (List Int)) (x25 : (List Int)) (x26 : Int) (x27 : Int) (x28 : Bool) (xo4 : (ByteArray × ByteArray)) (xo6 : (Tr × Tr)) : St := mkSt 59 [(1, .s (.v (.sl (.int .i64)) x1)), (4, .s (.adr 4 none)), (6, .s (.adr 6 none)), (25, .s (.v (.sl (.int .i64)) x25)), (26, .s (.v (.int .i64) x26)), (27, .s (.v (.int .i64) x27)), (28, .s (.v .bool x28))] [(4, .box (.pr .str .str) xo4 false), (6, .box (.pr .tree .tree) xo6 false)]

def impl_ReduceBy_L1X1 (y5 : Bool) (yo4 : (ByteArray × ByteArray)) : St := mkSt 59 [(4, .s (.adr 4 none)), (5, .s (.v .bool y5))] [(4, .box (.pr .str .str) yo4 false)]

def impl_ReduceBy_L1c (x1 : (List Int)) (xo4 : (ByteArray × ByteArray)) (xo6 : (Tr × Tr)) : St := mkSt 59 [(1, .s (.v (.sl (.int .i64)) x1)), (4, .s (.adr 4 none)), (6, .s (.adr 6 none))] [(4, .box (.pr .str .str) xo4 false), (6, .box (.pr .tree .tree) xo6 false)]

theorem impl_ReduceBy_L0a_x1 (x1 : (List Int)) (x25 : (List Int)) (x26 : Int) (x27 : Int) (xo4 : (ByteArray × ByteArray)) (xo6 : (Tr × Tr))
    (h1 : x27 < x26)
    (h2 : 0 ≤ x27)
    (h3 : x27 < (List.length x25 : Int))
    (h4 : (List.getD x25 (x27).toNat (0 : Int)) < (0 : Int)) :
    LoopSC cfg.P 2 (lb P_impl_ReduceBy 0) (impl_ReduceBy_L0a x1 x25 x26 x27 xo4 xo6) (.ret) (impl_ReduceBy_L0X1 false ((⟨#[]⟩ : ByteArray), (⟨#[]⟩ : ByteArray))) :=
  loop_out cfgOK (f := i_impl_ReduceBy) (its := [.bool true, .bool true])
    (ps := [decide (x27 < x26) = true,
      0 ≤ x27,
      x27 < (List.length x25 : Int),
      decide ((List.getD x25 (x27).toNat (0 : Int)) < (0 : Int)) = true]) (by kernel_rfl) ⟨(decide_eq_true h1), h2, h3, (decide_eq_true h4), trivial⟩ (fun h => by cases h)

theorem impl_ReduceBy_L0a_i2 (x1 : (List Int)) (x25 : (List Int)) (x26 : Int) (x27 : Int) (xo4 : (ByteArray × ByteArray)) (xo6 : (Tr × Tr))
    (h1 : x27 < x26)
    (h2 : 0 ≤ x27)
    (h3 : x27 < (List.length x25 : Int))
    (h4 : ¬ ((List.getD x25 (x27).toNat (0 : Int)) < (0 : Int)))
    {e : AEx} {st : St} (next : LoopSC cfg.P 2 (lb P_impl_ReduceBy 0) (impl_ReduceBy_L0a x1 x25 x26 (IntKind.wrap .i64 (x27 + (1 : Int))) xo4 xo6) e st) :
    LoopSC cfg.P 2 (lb P_impl_ReduceBy 0) (impl_ReduceBy_L0a x1 x25 x26 x27 xo4 xo6) e st :=
  loop_iter cfgOK (f := i_impl_ReduceBy) (its := [.bool true, .bool false])
    (ps := [decide (x27 < x26) = true,
      0 ≤ x27,
      x27 < (List.length x25 : Int),
      decide ((List.getD x25 (x27).toNat (0 : Int)) < (0 : Int)) = false]) (st1 := impl_ReduceBy_L0a x1 x25 x26 (IntKind.wrap .i64 (x27 + (1 : Int))) xo4 xo6) (by kernel_rfl) ⟨(decide_eq_true h1), h2, h3, (decide_eq_false h4), trivial⟩ next

theorem impl_ReduceBy_L0a_x3 (x1 : (List Int)) (x25 : (List Int)) (x26 : Int) (x27 : Int) (xo4 : (ByteArray × ByteArray)) (xo6 : (Tr × Tr))
    (h1 : ¬ (x27 < x26)) :
    LoopSC cfg.P 2 (lb P_impl_ReduceBy 0) (impl_ReduceBy_L0a x1 x25 x26 x27 xo4 xo6) (.exit 0) (impl_ReduceBy_L0X2 x1 x25 x26 x27 false xo4 xo6) :=
  loop_out cfgOK (f := i_impl_ReduceBy) (its := [.bool false])
    (ps := [decide (x27 < x26) = false]) (by kernel_rfl) ⟨(decide_eq_false h1), trivial⟩ (fun h => by cases h)

theorem impl_ReduceBy_L1a_x1 (x1 : (List Int)) (x25 : (List Int)) (x26 : Int) (x27 : Int) (x28 : Bool) (xo4 : (ByteArray × ByteArray)) (xo6 : (Tr × Tr)) (dc1 : (List Int)) (dc2 : (ByteArray × ByteArray))
    (h1 : SC cfg.P i_impl_pair_both [.s (.v (.pr .tree .tree) xo6)] (.s (.own t_int (.int .i64) dc1)) [])
    (h2 : ((List.length dc1 : Nat) : Int) = (0 : Int))
    (h3 : SC cfg.P i_impl_pair_plain [.s (.v (.pr .tree .tree) xo6)] (.s (.v (.pr .str .str) dc2)) []) :
    LoopSC cfg.P 2 (lb P_impl_ReduceBy 1) (impl_ReduceBy_L1a x1 x25 x26 x27 x28 xo4 xo6) (.ret) (impl_ReduceBy_L1X1 true dc2) :=
  loop_out cfgOK (f := i_impl_ReduceBy) (its := [.res (.s (.own t_int (.int .i64) dc1)) [] [] [36], .bool true, .res (.s (.v (.pr .str .str) dc2)) [] [] []])
    (ps := [SC cfg.P i_impl_pair_both [.s (.v (.pr .tree .tree) xo6)] (.s (.own t_int (.int .i64) dc1)) [],
      (((List.length dc1 : Nat) : Int) == (0 : Int)) = true,
      SC cfg.P i_impl_pair_plain [.s (.v (.pr .tree .tree) xo6)] (.s (.v (.pr .str .str) dc2)) []]) (by kernel_rfl) ⟨h1, (beq_t h2), h3, trivial⟩ (fun h => by cases h)

theorem impl_ReduceBy_L1a_i2 (x1 : (List Int)) (x25 : (List Int)) (x26 : Int) (x27 : Int) (x28 : Bool) (xo4 : (ByteArray × ByteArray)) (xo6 : (Tr × Tr)) (dc1 : (List Int)) (dc2 : (Tr × Tr))
    (h1 : SC cfg.P i_impl_pair_both [.s (.v (.pr .tree .tree) xo6)] (.s (.own t_int (.int .i64) dc1)) [])
    (h2 : ((List.length dc1 : Nat) : Int) ≠ (0 : Int))
    (h3 : ((List.length x1 : Nat) : Int) > (0 : Int))
    (h4 : (0 : Int) < (List.length x1 : Int))
    (h5 : ((List.length dc1 : Nat) : Int) ≠ 0)
    (h6 : (1 : Int) ≤ (List.length x1 : Int))
    (h7 : 0 ≤ (Int.tmod (List.getD x1 ((0 : Int)).toNat (0 : Int)) ((List.length dc1 : Nat) : Int)))
    (h8 : (Int.tmod (List.getD x1 ((0 : Int)).toNat (0 : Int)) ((List.length dc1 : Nat) : Int)) < (List.length dc1 : Int))
    (h9 : ((Int.tmod (List.getD x1 ((0 : Int)).toNat (0 : Int)) ((List.length dc1 : Nat) : Int))).toNat < List.length dc1)
    (h10 : SC cfg.P i_impl_pair_drop [.s (.v (.pr .tree .tree) xo6), .s (.v (.int .i64) (List.getD dc1 ((Int.tmod (List.getD x1 ((0 : Int)).toNat (0 : Int)) ((List.length dc1 : Nat) : Int))).toNat (0 : Int)))] (.s (.v (.pr .tree .tree) dc2)) [])
    {e : AEx} {st : St} (next : LoopSC cfg.P 2 (lb P_impl_ReduceBy 1) (impl_ReduceBy_L1c (cutL x1 (1 : Int) ((List.length x1 : Nat) : Int)) xo4 dc2) e st) :
    LoopSC cfg.P 2 (lb P_impl_ReduceBy 1) (impl_ReduceBy_L1a x1 x25 x26 x27 x28 xo4 xo6) e st :=
  loop_iter cfgOK (f := i_impl_ReduceBy) (its := [.res (.s (.own t_int (.int .i64) dc1)) [] [] [36], .bool false, .bool true, .res (.s (.v (.pr .tree .tree) dc2)) [] [] []])
    (ps := [SC cfg.P i_impl_pair_both [.s (.v (.pr .tree .tree) xo6)] (.s (.own t_int (.int .i64) dc1)) [],
      (((List.length dc1 : Nat) : Int) == (0 : Int)) = false,
      decide (((List.length x1 : Nat) : Int) > (0 : Int)) = true,
      0 ≤ (0 : Int),
      (0 : Int) < (List.length x1 : Int),
      ((List.length dc1 : Nat) : Int) ≠ 0,
      0 ≤ (1 : Int),
      (1 : Int) ≤ (List.length x1 : Int),
      0 ≤ (Int.tmod (List.getD x1 ((0 : Int)).toNat (0 : Int)) ((List.length dc1 : Nat) : Int)),
      (Int.tmod (List.getD x1 ((0 : Int)).toNat (0 : Int)) ((List.length dc1 : Nat) : Int)) < (List.length dc1 : Int),
      ((Int.tmod (List.getD x1 ((0 : Int)).toNat (0 : Int)) ((List.length dc1 : Nat) : Int))).toNat < List.length dc1,
      SC cfg.P i_impl_pair_drop [.s (.v (.pr .tree .tree) xo6), .s (.v (.int .i64) (List.getD dc1 ((Int.tmod (List.getD x1 ((0 : Int)).toNat (0 : Int)) ((List.length dc1 : Nat) : Int))).toNat (0 : Int)))] (.s (.v (.pr .tree .tree) dc2)) []]) (st1 := impl_ReduceBy_L1c (cutL x1 (1 : Int) ((List.length x1 : Nat) : Int)) xo4 dc2) (by kernel_rfl) ⟨h1, (beq_f h2), (decide_eq_true h3), (by decide), h4, h5, (by decide), h6, h7, h8, h9, h10, trivial⟩ next

theorem impl_ReduceBy_L1a_i3 (x1 : (List Int)) (x25 : (List Int)) (x26 : Int) (x27 : Int) (x28 : Bool) (xo4 : (ByteArray × ByteArray)) (xo6 : (Tr × Tr)) (dc1 : (List Int)) (dc2 : (Tr × Tr))
    (h1 : SC cfg.P i_impl_pair_both [.s (.v (.pr .tree .tree) xo6)] (.s (.own t_int (.int .i64) dc1)) [])
    (h2 : ((List.length dc1 : Nat) : Int) ≠ (0 : Int))
    (h3 : ¬ (((List.length x1 : Nat) : Int) > (0 : Int)))
    (h4 : (0 : Int) < (List.length dc1 : Int))
    (h5 : ((0 : Int)).toNat < List.length dc1)
    (h6 : SC cfg.P i_impl_pair_drop [.s (.v (.pr .tree .tree) xo6), .s (.v (.int .i64) (List.getD dc1 ((0 : Int)).toNat (0 : Int)))] (.s (.v (.pr .tree .tree) dc2)) [])
    {e : AEx} {st : St} (next : LoopSC cfg.P 2 (lb P_impl_ReduceBy 1) (impl_ReduceBy_L1c x1 xo4 dc2) e st) :
    LoopSC cfg.P 2 (lb P_impl_ReduceBy 1) (impl_ReduceBy_L1a x1 x25 x26 x27 x28 xo4 xo6) e st :=
  loop_iter cfgOK (f := i_impl_ReduceBy) (its := [.res (.s (.own t_int (.int .i64) dc1)) [] [] [36], .bool false, .bool false, .res (.s (.v (.pr .tree .tree) dc2)) [] [] []])
    (ps := [SC cfg.P i_impl_pair_both [.s (.v (.pr .tree .tree) xo6)] (.s (.own t_int (.int .i64) dc1)) [],
      (((List.length dc1 : Nat) : Int) == (0 : Int)) = false,
      decide (((List.length x1 : Nat) : Int) > (0 : Int)) = false,
      0 ≤ (0 : Int),
      (0 : Int) < (List.length dc1 : Int),
      ((0 : Int)).toNat < List.length dc1,
      SC cfg.P i_impl_pair_drop [.s (.v (.pr .tree .tree) xo6), .s (.v (.int .i64) (List.getD dc1 ((0 : Int)).toNat (0 : Int)))] (.s (.v (.pr .tree .tree) dc2)) []]) (st1 := impl_ReduceBy_L1c x1 xo4 dc2) (by kernel_rfl) ⟨h1, (beq_f h2), (decide_eq_false h3), (by decide), h4, h5, h6, trivial⟩ next

theorem impl_ReduceBy_L1c_x1 (x1 : (List Int)) (xo4 : (ByteArray × ByteArray)) (xo6 : (Tr × Tr)) (dc1 : (List Int)) (dc2 : (ByteArray × ByteArray))
    (h1 : SC cfg.P i_impl_pair_both [.s (.v (.pr .tree .tree) xo6)] (.s (.own t_int (.int .i64) dc1)) [])
    (h2 : ((List.length dc1 : Nat) : Int) = (0 : Int))
    (h3 : SC cfg.P i_impl_pair_plain [.s (.v (.pr .tree .tree) xo6)] (.s (.v (.pr .str .str) dc2)) []) :
    LoopSC cfg.P 2 (lb P_impl_ReduceBy 1) (impl_ReduceBy_L1c x1 xo4 xo6) (.ret) (impl_ReduceBy_L1X1 true dc2) :=
  loop_out cfgOK (f := i_impl_ReduceBy) (its := [.res (.s (.own t_int (.int .i64) dc1)) [] [] [36], .bool true, .res (.s (.v (.pr .str .str) dc2)) [] [] []])
    (ps := [SC cfg.P i_impl_pair_both [.s (.v (.pr .tree .tree) xo6)] (.s (.own t_int (.int .i64) dc1)) [],
      (((List.length dc1 : Nat) : Int) == (0 : Int)) = true,
      SC cfg.P i_impl_pair_plain [.s (.v (.pr .tree .tree) xo6)] (.s (.v (.pr .str .str) dc2)) []]) (by kernel_rfl) ⟨h1, (beq_t h2), h3, trivial⟩ (fun h => by cases h)

theorem impl_ReduceBy_L1c_i2 (x1 : (List Int)) (xo4 : (ByteArray × ByteArray)) (xo6 : (Tr × Tr)) (dc1 : (List Int)) (dc2 : (Tr × Tr))
    (h1 : SC cfg.P i_impl_pair_both [.s (.v (.pr .tree .tree) xo6)] (.s (.own t_int (.int .i64) dc1)) [])
    (h2 : ((List.length dc1 : Nat) : Int) ≠ (0 : Int))
    (h3 : ((List.length x1 : Nat) : Int) > (0 : Int))
    (h4 : (0 : Int) < (List.length x1 : Int))
    (h5 : ((List.length dc1 : Nat) : Int) ≠ 0)
    (h6 : (1 : Int) ≤ (List.length x1 : Int))
    (h7 : 0 ≤ (Int.tmod (List.getD x1 ((0 : Int)).toNat (0 : Int)) ((List.length dc1 : Nat) : Int)))
    (h8 : (Int.tmod (List.getD x1 ((0 : Int)).toNat (0 : Int)) ((List.length dc1 : Nat) : Int)) < (List.length dc1 : Int))
    (h9 : ((Int.tmod (List.getD x1 ((0 : Int)).toNat (0 : Int)) ((List.length dc1 : Nat) : Int))).toNat < List.length dc1)
    (h10 : SC cfg.P i_impl_pair_drop [.s (.v (.pr .tree .tree) xo6), .s (.v (.int .i64) (List.getD dc1 ((Int.tmod (List.getD x1 ((0 : Int)).toNat (0 : Int)) ((List.length dc1 : Nat) : Int))).toNat (0 : Int)))] (.s (.v (.pr .tree .tree) dc2)) [])
    {e : AEx} {st : St} (next : LoopSC cfg.P 2 (lb P_impl_ReduceBy 1) (impl_ReduceBy_L1c (cutL x1 (1 : Int) ((List.length x1 : Nat) : Int)) xo4 dc2) e st) :
    LoopSC cfg.P 2 (lb P_impl_ReduceBy 1) (impl_ReduceBy_L1c x1 xo4 xo6) e st :=
  loop_iter cfgOK (f := i_impl_ReduceBy) (its := [.res (.s (.own t_int (.int .i64) dc1)) [] [] [36], .bool false, .bool true, .res (.s (.v (.pr .tree .tree) dc2)) [] [] []])
    (ps := [SC cfg.P i_impl_pair_both [.s (.v (.pr .tree .tree) xo6)] (.s (.own t_int (.int .i64) dc1)) [],
      (((List.length dc1 : Nat) : Int) == (0 : Int)) = false,
      decide (((List.length x1 : Nat) : Int) > (0 : Int)) = true,
      0 ≤ (0 : Int),
      (0 : Int) < (List.length x1 : Int),
      ((List.length dc1 : Nat) : Int) ≠ 0,
      0 ≤ (1 : Int),
      (1 : Int) ≤ (List.length x1 : Int),
      0 ≤ (Int.tmod (List.getD x1 ((0 : Int)).toNat (0 : Int)) ((List.length dc1 : Nat) : Int)),
      (Int.tmod (List.getD x1 ((0 : Int)).toNat (0 : Int)) ((List.length dc1 : Nat) : Int)) < (List.length dc1 : Int),
      ((Int.tmod (List.getD x1 ((0 : Int)).toNat (0 : Int)) ((List.length dc1 : Nat) : Int))).toNat < List.length dc1,
      SC cfg.P i_impl_pair_drop [.s (.v (.pr .tree .tree) xo6), .s (.v (.int .i64) (List.getD dc1 ((Int.tmod (List.getD x1 ((0 : Int)).toNat (0 : Int)) ((List.length dc1 : Nat) : Int))).toNat (0 : Int)))] (.s (.v (.pr .tree .tree) dc2)) []]) (st1 := impl_ReduceBy_L1c (cutL x1 (1 : Int) ((List.length x1 : Nat) : Int)) xo4 dc2) (by kernel_rfl) ⟨h1, (beq_f h2), (decide_eq_true h3), (by decide), h4, h5, (by decide), h6, h7, h8, h9, h10, trivial⟩ next

theorem impl_ReduceBy_L1c_i3 (x1 : (List Int)) (xo4 : (ByteArray × ByteArray)) (xo6 : (Tr × Tr)) (dc1 : (List Int)) (dc2 : (Tr × Tr))
    (h1 : SC cfg.P i_impl_pair_both [.s (.v (.pr .tree .tree) xo6)] (.s (.own t_int (.int .i64) dc1)) [])
    (h2 : ((List.length dc1 : Nat) : Int) ≠ (0 : Int))
    (h3 : ¬ (((List.length x1 : Nat) : Int) > (0 : Int)))
    (h4 : (0 : Int) < (List.length dc1 : Int))
    (h5 : ((0 : Int)).toNat < List.length dc1)
    (h6 : SC cfg.P i_impl_pair_drop [.s (.v (.pr .tree .tree) xo6), .s (.v (.int .i64) (List.getD dc1 ((0 : Int)).toNat (0 : Int)))] (.s (.v (.pr .tree .tree) dc2)) [])
    {e : AEx} {st : St} (next : LoopSC cfg.P 2 (lb P_impl_ReduceBy 1) (impl_ReduceBy_L1c x1 xo4 dc2) e st) :
    LoopSC cfg.P 2 (lb P_impl_ReduceBy 1) (impl_ReduceBy_L1c x1 xo4 xo6) e st :=
  loop_iter cfgOK (f := i_impl_ReduceBy) (its := [.res (.s (.own t_int (.int .i64) dc1)) [] [] [36], .bool false, .bool false, .res (.s (.v (.pr .tree .tree) dc2)) [] [] []])
    (ps := [SC cfg.P i_impl_pair_both [.s (.v (.pr .tree .tree) xo6)] (.s (.own t_int (.int .i64) dc1)) [],
      (((List.length dc1 : Nat) : Int) == (0 : Int)) = false,
      decide (((List.length x1 : Nat) : Int) > (0 : Int)) = false,
      0 ≤ (0 : Int),
      (0 : Int) < (List.length dc1 : Int),
      ((0 : Int)).toNat < List.length dc1,
      SC cfg.P i_impl_pair_drop [.s (.v (.pr .tree .tree) xo6), .s (.v (.int .i64) (List.getD dc1 ((0 : Int)).toNat (0 : Int)))] (.s (.v (.pr .tree .tree) dc2)) []]) (st1 := impl_ReduceBy_L1c x1 xo4 dc2) (by kernel_rfl) ⟨h1, (beq_f h2), (decide_eq_false h3), (by decide), h4, h5, h6, trivial⟩ next

theorem impl_ReduceBy_p1 (a0 : (ByteArray × ByteArray)) (a1 : (List Int)) (c1a : (Tr × Tr))
    (h1 : SC cfg.P i_impl_pairOf [.s (.v (.pr .str .str) a0)] (.tup [.v (.pr .tree .tree) c1a, .v .bool true]) [])
    (h2 : ((List.length a1 : Nat) : Int) > (20 : Int)) :
    SC cfg.P i_impl_ReduceBy [.s (.v (.pr .str .str) a0), .s (.v (.sl (.int .i64)) a1)] (.tup [.v (.pr .str .str) ((⟨#[]⟩ : ByteArray), (⟨#[]⟩ : ByteArray)), .v .bool false]) [] :=
  SC_of_run cfgOK (its := [.res (.tup [.v (.pr .tree .tree) c1a, .v .bool true]) [] [] [], .bool true])
    (ps := [SC cfg.P i_impl_pairOf [.s (.v (.pr .str .str) a0)] (.tup [.v (.pr .tree .tree) c1a, .v .bool true]) [],
      decide (((List.length a1 : Nat) : Int) > (20 : Int)) = true]) (by kernel_rfl) ⟨h1, (decide_eq_true h2), trivial⟩ get_impl_ReduceBy (by decide)

theorem impl_ReduceBy_p2 (a0 : (ByteArray × ByteArray)) (a1 : (List Int)) (c1a : (Tr × Tr)) (k1y5 : Bool) (k1yo4 : (ByteArray × ByteArray))
    (h1 : SC cfg.P i_impl_pairOf [.s (.v (.pr .str .str) a0)] (.tup [.v (.pr .tree .tree) c1a, .v .bool true]) [])
    (h2 : ¬ (((List.length a1 : Nat) : Int) > (20 : Int)))
    (h3 : LoopSC cfg.P 2 (lb P_impl_ReduceBy 0) (impl_ReduceBy_L0a a1 a1 ((List.length a1 : Nat) : Int) (0 : Int) ((⟨#[]⟩ : ByteArray), (⟨#[]⟩ : ByteArray)) c1a) (.ret) (impl_ReduceBy_L0X1 k1y5 k1yo4)) :
    SC cfg.P i_impl_ReduceBy [.s (.v (.pr .str .str) a0), .s (.v (.sl (.int .i64)) a1)] (.tup [.v (.pr .str .str) k1yo4, .v .bool k1y5]) [] :=
  SC_of_run cfgOK (its := [.res (.tup [.v (.pr .tree .tree) c1a, .v .bool true]) [] [] [], .bool false, .loop (fun _ => (.ret, impl_ReduceBy_L0X1 k1y5 k1yo4))])
    (ps := [SC cfg.P i_impl_pairOf [.s (.v (.pr .str .str) a0)] (.tup [.v (.pr .tree .tree) c1a, .v .bool true]) [],
      decide (((List.length a1 : Nat) : Int) > (20 : Int)) = false,
      LoopSC cfg.P 2 (lb P_impl_ReduceBy 0) (impl_ReduceBy_L0a a1 a1 ((List.length a1 : Nat) : Int) (0 : Int) ((⟨#[]⟩ : ByteArray), (⟨#[]⟩ : ByteArray)) c1a) (.ret) (impl_ReduceBy_L0X1 k1y5 k1yo4)]) (by kernel_rfl) ⟨h1, (decide_eq_false h2), h3, trivial⟩ get_impl_ReduceBy (by decide)

theorem impl_ReduceBy_p3 (a0 : (ByteArray × ByteArray)) (a1 : (List Int)) (c1a : (Tr × Tr)) (k1y1 : (List Int)) (k1y25 : (List Int)) (k1y26 : Int) (k1y27 : Int) (k1y28 : Bool) (k1yo4 : (ByteArray × ByteArray)) (k1yo6 : (Tr × Tr)) (k2y5 : Bool) (k2yo4 : (ByteArray × ByteArray))
    (h1 : SC cfg.P i_impl_pairOf [.s (.v (.pr .str .str) a0)] (.tup [.v (.pr .tree .tree) c1a, .v .bool true]) [])
    (h2 : ¬ (((List.length a1 : Nat) : Int) > (20 : Int)))
    (h3 : LoopSC cfg.P 2 (lb P_impl_ReduceBy 0) (impl_ReduceBy_L0a a1 a1 ((List.length a1 : Nat) : Int) (0 : Int) ((⟨#[]⟩ : ByteArray), (⟨#[]⟩ : ByteArray)) c1a) (.exit 0) (impl_ReduceBy_L0X2 k1y1 k1y25 k1y26 k1y27 k1y28 k1yo4 k1yo6))
    (h4 : LoopSC cfg.P 2 (lb P_impl_ReduceBy 1) (impl_ReduceBy_L1a k1y1 k1y25 k1y26 k1y27 k1y28 k1yo4 k1yo6) (.ret) (impl_ReduceBy_L1X1 k2y5 k2yo4)) :
    SC cfg.P i_impl_ReduceBy [.s (.v (.pr .str .str) a0), .s (.v (.sl (.int .i64)) a1)] (.tup [.v (.pr .str .str) k2yo4, .v .bool k2y5]) [] :=
  SC_of_run cfgOK (its := [.res (.tup [.v (.pr .tree .tree) c1a, .v .bool true]) [] [] [], .bool false, .loop (fun _ => (.exit 0, impl_ReduceBy_L0X2 k1y1 k1y25 k1y26 k1y27 k1y28 k1yo4 k1yo6)), .loop (fun _ => (.ret, impl_ReduceBy_L1X1 k2y5 k2yo4))])
    (ps := [SC cfg.P i_impl_pairOf [.s (.v (.pr .str .str) a0)] (.tup [.v (.pr .tree .tree) c1a, .v .bool true]) [],
      decide (((List.length a1 : Nat) : Int) > (20 : Int)) = false,
      LoopSC cfg.P 2 (lb P_impl_ReduceBy 0) (impl_ReduceBy_L0a a1 a1 ((List.length a1 : Nat) : Int) (0 : Int) ((⟨#[]⟩ : ByteArray), (⟨#[]⟩ : ByteArray)) c1a) (.exit 0) (impl_ReduceBy_L0X2 k1y1 k1y25 k1y26 k1y27 k1y28 k1yo4 k1yo6),
      LoopSC cfg.P 2 (lb P_impl_ReduceBy 1) (impl_ReduceBy_L1a k1y1 k1y25 k1y26 k1y27 k1y28 k1yo4 k1yo6) (.ret) (impl_ReduceBy_L1X1 k2y5 k2yo4)]) (by kernel_rfl) ⟨h1, (decide_eq_false h2), h3, h4, trivial⟩ get_impl_ReduceBy (by decide)

theorem impl_ReduceBy_p4 (a0 : (ByteArray × ByteArray)) (a1 : (List Int)) (c1a : (Tr × Tr))
    (h1 : SC cfg.P i_impl_pairOf [.s (.v (.pr .str .str) a0)] (.tup [.v (.pr .tree .tree) c1a, .v .bool false]) []) :
    SC cfg.P i_impl_ReduceBy [.s (.v (.pr .str .str) a0), .s (.v (.sl (.int .i64)) a1)] (.tup [.v (.pr .str .str) ((⟨#[]⟩ : ByteArray), (⟨#[]⟩ : ByteArray)), .v .bool false]) [] :=
  SC_of_run cfgOK (its := [.res (.tup [.v (.pr .tree .tree) c1a, .v .bool false]) [] [] []])
    (ps := [SC cfg.P i_impl_pairOf [.s (.v (.pr .str .str) a0)] (.tup [.v (.pr .tree .tree) c1a, .v .bool false]) []]) (by kernel_rfl) ⟨h1, trivial⟩ get_impl_ReduceBy (by decide)

/-! ### laws_eqIntS -/


def laws_eqIntS_L0a (x0 : (List Int)) (x1 : (List Int)) (x5 : Int) : St := mkSt 26 [(0, .s (.v (.sl (.int .i64)) x0)), (1, .s (.v (.sl (.int .i64)) x1)), (5, .s (.v (.int .i64) x5))] []

def laws_eqIntS_L0X1 (y4 : Bool) : St := mkSt 26 [(4, .s (.v .bool y4))] []

def laws_eqIntS_L0X2 (y0 : (List Int)) (y1 : (List Int)) (y5 : Int) (y14 : Bool) : St := mkSt 26 [(0, .s (.v (.sl (.int .i64)) y0)), (1, .s (.v (.sl (.int .i64)) y1)), (5, .s (.v (.int .i64) y5)), (14, .s (.v .bool y14))] []

theorem laws_eqIntS_L0a_x1 (x0 : (List Int)) (x1 : (List Int)) (x5 : Int)
    (h1 : x5 < ((List.length x0 : Nat) : Int))
    (h2 : 0 ≤ x5)
    (h3 : x5 < (List.length x0 : Int))
    (h4 : x5 < (List.length x1 : Int))
    (h5 : (List.getD x0 (x5).toNat (0 : Int)) ≠ (List.getD x1 (x5).toNat (0 : Int))) :
    LoopSC cfg.P 2 (lb P_laws_eqIntS 0) (laws_eqIntS_L0a x0 x1 x5) (.ret) (laws_eqIntS_L0X1 false) :=
  loop_out cfgOK (f := i_laws_eqIntS) (its := [.bool true, .bool true])
    (ps := [decide (x5 < ((List.length x0 : Nat) : Int)) = true,
      0 ≤ x5,
      x5 < (List.length x0 : Int),
      0 ≤ x5,
      x5 < (List.length x1 : Int),
      ((List.getD x0 (x5).toNat (0 : Int)) != (List.getD x1 (x5).toNat (0 : Int))) = true]) (by kernel_rfl) ⟨(decide_eq_true h1), h2, h3, h2, h4, (bne_t h5), trivial⟩ (fun h => by cases h)

theorem laws_eqIntS_L0a_i2 (x0 : (List Int)) (x1 : (List Int)) (x5 : Int)
    (h1 : x5 < ((List.length x0 : Nat) : Int))
    (h2 : 0 ≤ x5)
    (h3 : x5 < (List.length x0 : Int))
    (h4 : x5 < (List.length x1 : Int))
    (h5 : (List.getD x0 (x5).toNat (0 : Int)) = (List.getD x1 (x5).toNat (0 : Int)))
    {e : AEx} {st : St} (next : LoopSC cfg.P 2 (lb P_laws_eqIntS 0) (laws_eqIntS_L0a x0 x1 (IntKind.wrap .i64 (x5 + (1 : Int)))) e st) :
    LoopSC cfg.P 2 (lb P_laws_eqIntS 0) (laws_eqIntS_L0a x0 x1 x5) e st :=
  loop_iter cfgOK (f := i_laws_eqIntS) (its := [.bool true, .bool false])
    (ps := [decide (x5 < ((List.length x0 : Nat) : Int)) = true,
      0 ≤ x5,
      x5 < (List.length x0 : Int),
      0 ≤ x5,
      x5 < (List.length x1 : Int),
      ((List.getD x0 (x5).toNat (0 : Int)) != (List.getD x1 (x5).toNat (0 : Int))) = false]) (st1 := laws_eqIntS_L0a x0 x1 (IntKind.wrap .i64 (x5 + (1 : Int)))) (by kernel_rfl) ⟨(decide_eq_true h1), h2, h3, h2, h4, (bne_f h5), trivial⟩ next

theorem laws_eqIntS_L0a_x3 (x0 : (List Int)) (x1 : (List Int)) (x5 : Int)
    (h1 : ¬ (x5 < ((List.length x0 : Nat) : Int))) :
    LoopSC cfg.P 2 (lb P_laws_eqIntS 0) (laws_eqIntS_L0a x0 x1 x5) (.exit 0) (laws_eqIntS_L0X2 x0 x1 x5 false) :=
  loop_out cfgOK (f := i_laws_eqIntS) (its := [.bool false])
    (ps := [decide (x5 < ((List.length x0 : Nat) : Int)) = false]) (by kernel_rfl) ⟨(decide_eq_false h1), trivial⟩ (fun h => by cases h)

theorem laws_eqIntS_p1 (a0 : (List Int)) (a1 : (List Int))
    (h1 : ((List.length a0 : Nat) : Int) ≠ ((List.length a1 : Nat) : Int)) :
    SC cfg.P i_laws_eqIntS [.s (.v (.sl (.int .i64)) a0), .s (.v (.sl (.int .i64)) a1)] (.s (.v .bool false)) [] :=
  SC_of_run cfgOK (its := [.bool true])
    (ps := [(((List.length a0 : Nat) : Int) != ((List.length a1 : Nat) : Int)) = true]) (by kernel_rfl) ⟨(bne_t h1), trivial⟩ get_laws_eqIntS (by decide)

theorem laws_eqIntS_p2 (a0 : (List Int)) (a1 : (List Int)) (k1y4 : Bool)
    (h1 : ((List.length a0 : Nat) : Int) = ((List.length a1 : Nat) : Int))
    (h2 : LoopSC cfg.P 2 (lb P_laws_eqIntS 0) (laws_eqIntS_L0a a0 a1 (0 : Int)) (.ret) (laws_eqIntS_L0X1 k1y4)) :
    SC cfg.P i_laws_eqIntS [.s (.v (.sl (.int .i64)) a0), .s (.v (.sl (.int .i64)) a1)] (.s (.v .bool k1y4)) [] :=
  SC_of_run cfgOK (its := [.bool false, .loop (fun _ => (.ret, laws_eqIntS_L0X1 k1y4))])
    (ps := [(((List.length a0 : Nat) : Int) != ((List.length a1 : Nat) : Int)) = false,
      LoopSC cfg.P 2 (lb P_laws_eqIntS 0) (laws_eqIntS_L0a a0 a1 (0 : Int)) (.ret) (laws_eqIntS_L0X1 k1y4)]) (by kernel_rfl) ⟨(bne_f h1), h2, trivial⟩ get_laws_eqIntS (by decide)

theorem laws_eqIntS_p3 (a0 : (List Int)) (a1 : (List Int)) (k1y0 : (List Int)) (k1y1 : (List Int)) (k1y5 : Int) (k1y14 : Bool)
    (h1 : ((List.length a0 : Nat) : Int) = ((List.length a1 : Nat) : Int))
    (h2 : LoopSC cfg.P 2 (lb P_laws_eqIntS 0) (laws_eqIntS_L0a a0 a1 (0 : Int)) (.exit 0) (laws_eqIntS_L0X2 k1y0 k1y1 k1y5 k1y14)) :
    SC cfg.P i_laws_eqIntS [.s (.v (.sl (.int .i64)) a0), .s (.v (.sl (.int .i64)) a1)] (.s (.v .bool true)) [] :=
  SC_of_run cfgOK (its := [.bool false, .loop (fun _ => (.exit 0, laws_eqIntS_L0X2 k1y0 k1y1 k1y5 k1y14))])
    (ps := [(((List.length a0 : Nat) : Int) != ((List.length a1 : Nat) : Int)) = false,
      LoopSC cfg.P 2 (lb P_laws_eqIntS 0) (laws_eqIntS_L0a a0 a1 (0 : Int)) (.exit 0) (laws_eqIntS_L0X2 k1y0 k1y1 k1y5 k1y14)]) (by kernel_rfl) ⟨(bne_f h1), h2, trivial⟩ get_laws_eqIntS (by decide)

/-! ### spec_prChoices -/


def spec_prChoices_L0a (x8 : (List Int)) (x9 : Int) (x10 : Int) : St := mkSt 17 [(8, .s (.v (.sl (.int .i64)) x8)), (9, .s (.v (.int .i64) x9)), (10, .s (.v (.int .i64) x10))] []

def spec_prChoices_L0X1 (y2 : Bool) : St := mkSt 17 [(2, .s (.v .bool y2))] []

def spec_prChoices_L0X2 (y8 : (List Int)) (y9 : Int) (y10 : Int) (y11 : Bool) : St := mkSt 17 [(8, .s (.v (.sl (.int .i64)) y8)), (9, .s (.v (.int .i64) y9)), (10, .s (.v (.int .i64) y10)), (11, .s (.v .bool y11))] []

theorem spec_prChoices_L0a_x1 (x8 : (List Int)) (x9 : Int) (x10 : Int)
    (h1 : x10 < x9)
    (h2 : 0 ≤ x10)
    (h3 : x10 < (List.length x8 : Int))
    (h4 : (List.getD x8 (x10).toNat (0 : Int)) < (0 : Int)) :
    LoopSC cfg.P 1 (lb P_spec_prChoices 0) (spec_prChoices_L0a x8 x9 x10) (.ret) (spec_prChoices_L0X1 false) :=
  loop_out cfgOK (f := i_spec_prChoices) (its := [.bool true, .bool true])
    (ps := [decide (x10 < x9) = true,
      0 ≤ x10,
      x10 < (List.length x8 : Int),
      decide ((List.getD x8 (x10).toNat (0 : Int)) < (0 : Int)) = true]) (by kernel_rfl) ⟨(decide_eq_true h1), h2, h3, (decide_eq_true h4), trivial⟩ (fun h => by cases h)

theorem spec_prChoices_L0a_i2 (x8 : (List Int)) (x9 : Int) (x10 : Int)
    (h1 : x10 < x9)
    (h2 : 0 ≤ x10)
    (h3 : x10 < (List.length x8 : Int))
    (h4 : ¬ ((List.getD x8 (x10).toNat (0 : Int)) < (0 : Int)))
    {e : AEx} {st : St} (next : LoopSC cfg.P 1 (lb P_spec_prChoices 0) (spec_prChoices_L0a x8 x9 (IntKind.wrap .i64 (x10 + (1 : Int)))) e st) :
    LoopSC cfg.P 1 (lb P_spec_prChoices 0) (spec_prChoices_L0a x8 x9 x10) e st :=
  loop_iter cfgOK (f := i_spec_prChoices) (its := [.bool true, .bool false])
    (ps := [decide (x10 < x9) = true,
      0 ≤ x10,
      x10 < (List.length x8 : Int),
      decide ((List.getD x8 (x10).toNat (0 : Int)) < (0 : Int)) = false]) (st1 := spec_prChoices_L0a x8 x9 (IntKind.wrap .i64 (x10 + (1 : Int)))) (by kernel_rfl) ⟨(decide_eq_true h1), h2, h3, (decide_eq_false h4), trivial⟩ next

theorem spec_prChoices_L0a_x3 (x8 : (List Int)) (x9 : Int) (x10 : Int)
    (h1 : ¬ (x10 < x9)) :
    LoopSC cfg.P 1 (lb P_spec_prChoices 0) (spec_prChoices_L0a x8 x9 x10) (.exit 0) (spec_prChoices_L0X2 x8 x9 x10 false) :=
  loop_out cfgOK (f := i_spec_prChoices) (its := [.bool false])
    (ps := [decide (x10 < x9) = false]) (by kernel_rfl) ⟨(decide_eq_false h1), trivial⟩ (fun h => by cases h)

theorem spec_prChoices_p1 (a0 : (List Int))
    (h1 : ((List.length a0 : Nat) : Int) > (20 : Int)) :
    SC cfg.P i_spec_prChoices [.s (.v (.sl (.int .i64)) a0)] (.s (.v .bool false)) [] :=
  SC_of_run cfgOK (its := [.bool true])
    (ps := [decide (((List.length a0 : Nat) : Int) > (20 : Int)) = true]) (by kernel_rfl) ⟨(decide_eq_true h1), trivial⟩ get_spec_prChoices (by decide)

theorem spec_prChoices_p2 (a0 : (List Int)) (k1y2 : Bool)
    (h1 : ¬ (((List.length a0 : Nat) : Int) > (20 : Int)))
    (h2 : LoopSC cfg.P 1 (lb P_spec_prChoices 0) (spec_prChoices_L0a a0 ((List.length a0 : Nat) : Int) (0 : Int)) (.ret) (spec_prChoices_L0X1 k1y2)) :
    SC cfg.P i_spec_prChoices [.s (.v (.sl (.int .i64)) a0)] (.s (.v .bool k1y2)) [] :=
  SC_of_run cfgOK (its := [.bool false, .loop (fun _ => (.ret, spec_prChoices_L0X1 k1y2))])
    (ps := [decide (((List.length a0 : Nat) : Int) > (20 : Int)) = false,
      LoopSC cfg.P 1 (lb P_spec_prChoices 0) (spec_prChoices_L0a a0 ((List.length a0 : Nat) : Int) (0 : Int)) (.ret) (spec_prChoices_L0X1 k1y2)]) (by kernel_rfl) ⟨(decide_eq_false h1), h2, trivial⟩ get_spec_prChoices (by decide)

theorem spec_prChoices_p3 (a0 : (List Int)) (k1y8 : (List Int)) (k1y9 : Int) (k1y10 : Int) (k1y11 : Bool)
    (h1 : ¬ (((List.length a0 : Nat) : Int) > (20 : Int)))
    (h2 : LoopSC cfg.P 1 (lb P_spec_prChoices 0) (spec_prChoices_L0a a0 ((List.length a0 : Nat) : Int) (0 : Int)) (.exit 0) (spec_prChoices_L0X2 k1y8 k1y9 k1y10 k1y11)) :
    SC cfg.P i_spec_prChoices [.s (.v (.sl (.int .i64)) a0)] (.s (.v .bool true)) [] :=
  SC_of_run cfgOK (its := [.bool false, .loop (fun _ => (.exit 0, spec_prChoices_L0X2 k1y8 k1y9 k1y10 k1y11))])
    (ps := [decide (((List.length a0 : Nat) : Int) > (20 : Int)) = false,
      LoopSC cfg.P 1 (lb P_spec_prChoices 0) (spec_prChoices_L0a a0 ((List.length a0 : Nat) : Int) (0 : Int)) (.exit 0) (spec_prChoices_L0X2 k1y8 k1y9 k1y10 k1y11)]) (by kernel_rfl) ⟨(decide_eq_false h1), h2, trivial⟩ get_spec_prChoices (by decide)

/-! ### spec_prReduce -/


def spec_prReduce_L0a (x1 : (List Int)) (x5 : Int) (xo2 : (ByteArray × ByteArray)) (xo4 : (ByteArray × ByteArray)) (xo9 : (List Int)) : St := mkSt 44 [(1, .s (.v (.sl (.int .i64)) x1)), (2, .s (.adr 2 none)), (4, .s (.adr 4 none)), (5, .s (.v (.int .i64) x5)), (6, .s (.osl 9 0))] [(2, .box (.pr .str .str) xo2 false), (4, .box (.pr .str .str) xo4 false), (9, .row t_int (.int .i64) xo9 0 false)]

def spec_prReduce_L0b (x1 : (List Int)) (x5 : Int) (xo2 : (ByteArray × ByteArray)) (xo4 : (ByteArray × ByteArray)) (xo14 : (List Int)) : St := mkSt 44 [(1, .s (.v (.sl (.int .i64)) x1)), (2, .s (.adr 2 none)), (4, .s (.adr 4 none)), (5, .s (.v (.int .i64) x5)), (6, .s (.osl 14 0))] [(2, .box (.pr .str .str) xo2 false), (4, .box (.pr .str .str) xo4 false), (14, .row t_int (.int .i64) xo14 0 false)]

def spec_prReduce_L0X1 (y1 : (List Int)) (y5 : Int) (y12 : Bool) (yo2 : (ByteArray × ByteArray)) (yo4 : (ByteArray × ByteArray)) (yo9 : (List Int)) : St := mkSt 44 [(1, .s (.v (.sl (.int .i64)) y1)), (2, .s (.adr 2 none)), (4, .s (.adr 4 none)), (5, .s (.v (.int .i64) y5)), (6, .s (.osl 9 0)), (12, .s (.v .bool y12))] [(2, .box (.pr .str .str) yo2 false), (4, .box (.pr .str .str) yo4 false), (9, .row t_int (.int .i64) yo9 0 false)]

def spec_prReduce_L0X2 (y1 : (List Int)) (y5 : Int) (y12 : Bool) (yo2 : (ByteArray × ByteArray)) (yo4 : (ByteArray × ByteArray)) (yo14 : (List Int)) : St := mkSt 44 [(1, .s (.v (.sl (.int .i64)) y1)), (2, .s (.adr 2 none)), (4, .s (.adr 4 none)), (5, .s (.v (.int .i64) y5)), (6, .s (.osl 14 0)), (12, .s (.v .bool y12))] [(2, .box (.pr .str .str) yo2 false), (4, .box (.pr .str .str) yo4 false), (14, .row t_int (.int .i64) yo14 0 false)]

theorem spec_prReduce_L0a_i1 (x1 : (List Int)) (x5 : Int) (xo2 : (ByteArray × ByteArray)) (xo4 : (ByteArray × ByteArray)) (xo9 : (List Int)) (dc1 : ByteArray) (dc2 : ByteArray) (dc3 : (List Int))
    (h1 : ((List.length xo9 : Nat) : Int) > (0 : Int))
    (h2 : x5 < ((List.length x1 : Nat) : Int))
    (h3 : 0 ≤ x5)
    (h4 : x5 < (List.length x1 : Int))
    (h5 : ((List.length xo9 : Nat) : Int) ≠ 0)
    (h6 : 0 ≤ (Int.tmod (List.getD x1 (x5).toNat (0 : Int)) ((List.length xo9 : Nat) : Int)))
    (h7 : (Int.tmod (List.getD x1 (x5).toNat (0 : Int)) ((List.length xo9 : Nat) : Int)) < (List.length xo9 : Int))
    (h8 : ((Int.tmod (List.getD x1 (x5).toNat (0 : Int)) ((List.length xo9 : Nat) : Int))).toNat < List.length xo9)
    (h9 : SC cfg.P i_spec_trDrop [.s (.v .str xo2.1), .s (.v (.int .i64) (List.getD xo9 ((Int.tmod (List.getD x1 (x5).toNat (0 : Int)) ((List.length xo9 : Nat) : Int))).toNat (0 : Int)))] (.s (.v .str dc1)) [])
    (h10 : SC cfg.P i_spec_trDrop [.s (.v .str xo2.2), .s (.v (.int .i64) (List.getD xo9 ((Int.tmod (List.getD x1 (x5).toNat (0 : Int)) ((List.length xo9 : Nat) : Int))).toNat (0 : Int)))] (.s (.v .str dc2)) [])
    (h11 : SC cfg.P i_spec_prBoth [.s (.v (.pr .str .str) (dc1, dc2))] (.s (.own t_int (.int .i64) dc3)) [])
    {e : AEx} {st : St} (next : LoopSC cfg.P 2 (lb P_spec_prReduce 0) (spec_prReduce_L0b x1 (IntKind.wrap .i64 (x5 + (1 : Int))) (dc1, dc2) xo4 dc3) e st) :
    LoopSC cfg.P 2 (lb P_spec_prReduce 0) (spec_prReduce_L0a x1 x5 xo2 xo4 xo9) e st :=
  loop_iter cfgOK (f := i_spec_prReduce) (its := [.bool true, .bool true, .res (.s (.v .str dc1)) [] [] [], .res (.s (.v .str dc2)) [] [] [], .res (.s (.own t_int (.int .i64) dc3)) [] [] [14]])
    (ps := [decide (((List.length xo9 : Nat) : Int) > (0 : Int)) = true,
      decide (x5 < ((List.length x1 : Nat) : Int)) = true,
      0 ≤ x5,
      x5 < (List.length x1 : Int),
      ((List.length xo9 : Nat) : Int) ≠ 0,
      0 ≤ (Int.tmod (List.getD x1 (x5).toNat (0 : Int)) ((List.length xo9 : Nat) : Int)),
      (Int.tmod (List.getD x1 (x5).toNat (0 : Int)) ((List.length xo9 : Nat) : Int)) < (List.length xo9 : Int),
      ((Int.tmod (List.getD x1 (x5).toNat (0 : Int)) ((List.length xo9 : Nat) : Int))).toNat < List.length xo9,
      SC cfg.P i_spec_trDrop [.s (.v .str xo2.1), .s (.v (.int .i64) (List.getD xo9 ((Int.tmod (List.getD x1 (x5).toNat (0 : Int)) ((List.length xo9 : Nat) : Int))).toNat (0 : Int)))] (.s (.v .str dc1)) [],
      0 ≤ (Int.tmod (List.getD x1 (x5).toNat (0 : Int)) ((List.length xo9 : Nat) : Int)),
      (Int.tmod (List.getD x1 (x5).toNat (0 : Int)) ((List.length xo9 : Nat) : Int)) < (List.length xo9 : Int),
      ((Int.tmod (List.getD x1 (x5).toNat (0 : Int)) ((List.length xo9 : Nat) : Int))).toNat < List.length xo9,
      SC cfg.P i_spec_trDrop [.s (.v .str xo2.2), .s (.v (.int .i64) (List.getD xo9 ((Int.tmod (List.getD x1 (x5).toNat (0 : Int)) ((List.length xo9 : Nat) : Int))).toNat (0 : Int)))] (.s (.v .str dc2)) [],
      SC cfg.P i_spec_prBoth [.s (.v (.pr .str .str) (dc1, dc2))] (.s (.own t_int (.int .i64) dc3)) []]) (st1 := spec_prReduce_L0b x1 (IntKind.wrap .i64 (x5 + (1 : Int))) (dc1, dc2) xo4 dc3) (by kernel_rfl) ⟨(decide_eq_true h1), (decide_eq_true h2), h3, h4, h5, h6, h7, h8, h9, h6, h7, h8, h10, h11, trivial⟩ next

theorem spec_prReduce_L0a_i2 (x1 : (List Int)) (x5 : Int) (xo2 : (ByteArray × ByteArray)) (xo4 : (ByteArray × ByteArray)) (xo9 : (List Int)) (dc1 : ByteArray) (dc2 : ByteArray) (dc3 : (List Int))
    (h1 : ((List.length xo9 : Nat) : Int) > (0 : Int))
    (h2 : ¬ (x5 < ((List.length x1 : Nat) : Int)))
    (h3 : (0 : Int) < (List.length xo9 : Int))
    (h4 : ((0 : Int)).toNat < List.length xo9)
    (h5 : SC cfg.P i_spec_trDrop [.s (.v .str xo2.1), .s (.v (.int .i64) (List.getD xo9 ((0 : Int)).toNat (0 : Int)))] (.s (.v .str dc1)) [])
    (h6 : SC cfg.P i_spec_trDrop [.s (.v .str xo2.2), .s (.v (.int .i64) (List.getD xo9 ((0 : Int)).toNat (0 : Int)))] (.s (.v .str dc2)) [])
    (h7 : SC cfg.P i_spec_prBoth [.s (.v (.pr .str .str) (dc1, dc2))] (.s (.own t_int (.int .i64) dc3)) [])
    {e : AEx} {st : St} (next : LoopSC cfg.P 2 (lb P_spec_prReduce 0) (spec_prReduce_L0b x1 (IntKind.wrap .i64 (x5 + (1 : Int))) (dc1, dc2) xo4 dc3) e st) :
    LoopSC cfg.P 2 (lb P_spec_prReduce 0) (spec_prReduce_L0a x1 x5 xo2 xo4 xo9) e st :=
  loop_iter cfgOK (f := i_spec_prReduce) (its := [.bool true, .bool false, .res (.s (.v .str dc1)) [] [] [], .res (.s (.v .str dc2)) [] [] [], .res (.s (.own t_int (.int .i64) dc3)) [] [] [14]])
    (ps := [decide (((List.length xo9 : Nat) : Int) > (0 : Int)) = true,
      decide (x5 < ((List.length x1 : Nat) : Int)) = false,
      0 ≤ (0 : Int),
      (0 : Int) < (List.length xo9 : Int),
      ((0 : Int)).toNat < List.length xo9,
      SC cfg.P i_spec_trDrop [.s (.v .str xo2.1), .s (.v (.int .i64) (List.getD xo9 ((0 : Int)).toNat (0 : Int)))] (.s (.v .str dc1)) [],
      0 ≤ (0 : Int),
      (0 : Int) < (List.length xo9 : Int),
      ((0 : Int)).toNat < List.length xo9,
      SC cfg.P i_spec_trDrop [.s (.v .str xo2.2), .s (.v (.int .i64) (List.getD xo9 ((0 : Int)).toNat (0 : Int)))] (.s (.v .str dc2)) [],
      SC cfg.P i_spec_prBoth [.s (.v (.pr .str .str) (dc1, dc2))] (.s (.own t_int (.int .i64) dc3)) []]) (st1 := spec_prReduce_L0b x1 (IntKind.wrap .i64 (x5 + (1 : Int))) (dc1, dc2) xo4 dc3) (by kernel_rfl) ⟨(decide_eq_true h1), (decide_eq_false h2), (by decide), h3, h4, h5, (by decide), h3, h4, h6, h7, trivial⟩ next

theorem spec_prReduce_L0a_x3 (x1 : (List Int)) (x5 : Int) (xo2 : (ByteArray × ByteArray)) (xo4 : (ByteArray × ByteArray)) (xo9 : (List Int))
    (h1 : ¬ (((List.length xo9 : Nat) : Int) > (0 : Int))) :
    LoopSC cfg.P 2 (lb P_spec_prReduce 0) (spec_prReduce_L0a x1 x5 xo2 xo4 xo9) (.exit 0) (spec_prReduce_L0X1 x1 x5 false xo2 xo4 xo9) :=
  loop_out cfgOK (f := i_spec_prReduce) (its := [.bool false])
    (ps := [decide (((List.length xo9 : Nat) : Int) > (0 : Int)) = false]) (by kernel_rfl) ⟨(decide_eq_false h1), trivial⟩ (fun h => by cases h)

theorem spec_prReduce_L0b_i1 (x1 : (List Int)) (x5 : Int) (xo2 : (ByteArray × ByteArray)) (xo4 : (ByteArray × ByteArray)) (xo14 : (List Int)) (dc1 : ByteArray) (dc2 : ByteArray) (dc3 : (List Int))
    (h1 : ((List.length xo14 : Nat) : Int) > (0 : Int))
    (h2 : x5 < ((List.length x1 : Nat) : Int))
    (h3 : 0 ≤ x5)
    (h4 : x5 < (List.length x1 : Int))
    (h5 : ((List.length xo14 : Nat) : Int) ≠ 0)
    (h6 : 0 ≤ (Int.tmod (List.getD x1 (x5).toNat (0 : Int)) ((List.length xo14 : Nat) : Int)))
    (h7 : (Int.tmod (List.getD x1 (x5).toNat (0 : Int)) ((List.length xo14 : Nat) : Int)) < (List.length xo14 : Int))
    (h8 : ((Int.tmod (List.getD x1 (x5).toNat (0 : Int)) ((List.length xo14 : Nat) : Int))).toNat < List.length xo14)
    (h9 : SC cfg.P i_spec_trDrop [.s (.v .str xo2.1), .s (.v (.int .i64) (List.getD xo14 ((Int.tmod (List.getD x1 (x5).toNat (0 : Int)) ((List.length xo14 : Nat) : Int))).toNat (0 : Int)))] (.s (.v .str dc1)) [])
    (h10 : SC cfg.P i_spec_trDrop [.s (.v .str xo2.2), .s (.v (.int .i64) (List.getD xo14 ((Int.tmod (List.getD x1 (x5).toNat (0 : Int)) ((List.length xo14 : Nat) : Int))).toNat (0 : Int)))] (.s (.v .str dc2)) [])
    (h11 : SC cfg.P i_spec_prBoth [.s (.v (.pr .str .str) (dc1, dc2))] (.s (.own t_int (.int .i64) dc3)) [])
    {e : AEx} {st : St} (next : LoopSC cfg.P 2 (lb P_spec_prReduce 0) (spec_prReduce_L0b x1 (IntKind.wrap .i64 (x5 + (1 : Int))) (dc1, dc2) xo4 dc3) e st) :
    LoopSC cfg.P 2 (lb P_spec_prReduce 0) (spec_prReduce_L0b x1 x5 xo2 xo4 xo14) e st :=
  loop_iter cfgOK (f := i_spec_prReduce) (its := [.bool true, .bool true, .res (.s (.v .str dc1)) [] [] [], .res (.s (.v .str dc2)) [] [] [], .res (.s (.own t_int (.int .i64) dc3)) [] [] [14]])
    (ps := [decide (((List.length xo14 : Nat) : Int) > (0 : Int)) = true,
      decide (x5 < ((List.length x1 : Nat) : Int)) = true,
      0 ≤ x5,
      x5 < (List.length x1 : Int),
      ((List.length xo14 : Nat) : Int) ≠ 0,
      0 ≤ (Int.tmod (List.getD x1 (x5).toNat (0 : Int)) ((List.length xo14 : Nat) : Int)),
      (Int.tmod (List.getD x1 (x5).toNat (0 : Int)) ((List.length xo14 : Nat) : Int)) < (List.length xo14 : Int),
      ((Int.tmod (List.getD x1 (x5).toNat (0 : Int)) ((List.length xo14 : Nat) : Int))).toNat < List.length xo14,
      SC cfg.P i_spec_trDrop [.s (.v .str xo2.1), .s (.v (.int .i64) (List.getD xo14 ((Int.tmod (List.getD x1 (x5).toNat (0 : Int)) ((List.length xo14 : Nat) : Int))).toNat (0 : Int)))] (.s (.v .str dc1)) [],
      0 ≤ (Int.tmod (List.getD x1 (x5).toNat (0 : Int)) ((List.length xo14 : Nat) : Int)),
      (Int.tmod (List.getD x1 (x5).toNat (0 : Int)) ((List.length xo14 : Nat) : Int)) < (List.length xo14 : Int),
      ((Int.tmod (List.getD x1 (x5).toNat (0 : Int)) ((List.length xo14 : Nat) : Int))).toNat < List.length xo14,
      SC cfg.P i_spec_trDrop [.s (.v .str xo2.2), .s (.v (.int .i64) (List.getD xo14 ((Int.tmod (List.getD x1 (x5).toNat (0 : Int)) ((List.length xo14 : Nat) : Int))).toNat (0 : Int)))] (.s (.v .str dc2)) [],
      SC cfg.P i_spec_prBoth [.s (.v (.pr .str .str) (dc1, dc2))] (.s (.own t_int (.int .i64) dc3)) []]) (st1 := spec_prReduce_L0b x1 (IntKind.wrap .i64 (x5 + (1 : Int))) (dc1, dc2) xo4 dc3) (by kernel_rfl) ⟨(decide_eq_true h1), (decide_eq_true h2), h3, h4, h5, h6, h7, h8, h9, h6, h7, h8, h10, h11, trivial⟩ next

theorem spec_prReduce_L0b_i2 (x1 : (List Int)) (x5 : Int) (xo2 : (ByteArray × ByteArray)) (xo4 : (ByteArray × ByteArray)) (xo14 : (List Int)) (dc1 : ByteArray) (dc2 : ByteArray) (dc3 : (List Int))
    (h1 : ((List.length xo14 : Nat) : Int) > (0 : Int))
    (h2 : ¬ (x5 < ((List.length x1 : Nat) : Int)))
    (h3 : (0 : Int) < (List.length xo14 : Int))
    (h4 : ((0 : Int)).toNat < List.length xo14)
    (h5 : SC cfg.P i_spec_trDrop [.s (.v .str xo2.1), .s (.v (.int .i64) (List.getD xo14 ((0 : Int)).toNat (0 : Int)))] (.s (.v .str dc1)) [])
    (h6 : SC cfg.P i_spec_trDrop [.s (.v .str xo2.2), .s (.v (.int .i64) (List.getD xo14 ((0 : Int)).toNat (0 : Int)))] (.s (.v .str dc2)) [])
    (h7 : SC cfg.P i_spec_prBoth [.s (.v (.pr .str .str) (dc1, dc2))] (.s (.own t_int (.int .i64) dc3)) [])
    {e : AEx} {st : St} (next : LoopSC cfg.P 2 (lb P_spec_prReduce 0) (spec_prReduce_L0b x1 (IntKind.wrap .i64 (x5 + (1 : Int))) (dc1, dc2) xo4 dc3) e st) :
    LoopSC cfg.P 2 (lb P_spec_prReduce 0) (spec_prReduce_L0b x1 x5 xo2 xo4 xo14) e st :=
  loop_iter cfgOK (f := i_spec_prReduce) (its := [.bool true, .bool false, .res (.s (.v .str dc1)) [] [] [], .res (.s (.v .str dc2)) [] [] [], .res (.s (.own t_int (.int .i64) dc3)) [] [] [14]])
    (ps := [decide (((List.length xo14 : Nat) : Int) > (0 : Int)) = true,
      decide (x5 < ((List.length x1 : Nat) : Int)) = false,
      0 ≤ (0 : Int),
      (0 : Int) < (List.length xo14 : Int),
      ((0 : Int)).toNat < List.length xo14,
      SC cfg.P i_spec_trDrop [.s (.v .str xo2.1), .s (.v (.int .i64) (List.getD xo14 ((0 : Int)).toNat (0 : Int)))] (.s (.v .str dc1)) [],
      0 ≤ (0 : Int),
      (0 : Int) < (List.length xo14 : Int),
      ((0 : Int)).toNat < List.length xo14,
      SC cfg.P i_spec_trDrop [.s (.v .str xo2.2), .s (.v (.int .i64) (List.getD xo14 ((0 : Int)).toNat (0 : Int)))] (.s (.v .str dc2)) [],
      SC cfg.P i_spec_prBoth [.s (.v (.pr .str .str) (dc1, dc2))] (.s (.own t_int (.int .i64) dc3)) []]) (st1 := spec_prReduce_L0b x1 (IntKind.wrap .i64 (x5 + (1 : Int))) (dc1, dc2) xo4 dc3) (by kernel_rfl) ⟨(decide_eq_true h1), (decide_eq_false h2), (by decide), h3, h4, h5, (by decide), h3, h4, h6, h7, trivial⟩ next

theorem spec_prReduce_L0b_x3 (x1 : (List Int)) (x5 : Int) (xo2 : (ByteArray × ByteArray)) (xo4 : (ByteArray × ByteArray)) (xo14 : (List Int))
    (h1 : ¬ (((List.length xo14 : Nat) : Int) > (0 : Int))) :
    LoopSC cfg.P 2 (lb P_spec_prReduce 0) (spec_prReduce_L0b x1 x5 xo2 xo4 xo14) (.exit 0) (spec_prReduce_L0X2 x1 x5 false xo2 xo4 xo14) :=
  loop_out cfgOK (f := i_spec_prReduce) (its := [.bool false])
    (ps := [decide (((List.length xo14 : Nat) : Int) > (0 : Int)) = false]) (by kernel_rfl) ⟨(decide_eq_false h1), trivial⟩ (fun h => by cases h)

theorem spec_prReduce_p1 (a0 : (ByteArray × ByteArray)) (a1 : (List Int)) (c1 : (List Int)) (k1y1 : (List Int)) (k1y5 : Int) (k1y12 : Bool) (k1yo2 : (ByteArray × ByteArray)) (k1yo4 : (ByteArray × ByteArray)) (k1yo9 : (List Int))
    (h1 : SC cfg.P i_spec_prBoth [.s (.v (.pr .str .str) a0)] (.s (.own t_int (.int .i64) c1)) [])
    (h2 : LoopSC cfg.P 2 (lb P_spec_prReduce 0) (spec_prReduce_L0a a1 (0 : Int) a0 ((⟨#[]⟩ : ByteArray), (⟨#[]⟩ : ByteArray)) c1) (.exit 0) (spec_prReduce_L0X1 k1y1 k1y5 k1y12 k1yo2 k1yo4 k1yo9)) :
    SC cfg.P i_spec_prReduce [.s (.v (.pr .str .str) a0), .s (.v (.sl (.int .i64)) a1)] (.s (.v (.pr .str .str) k1yo2)) [] :=
  SC_of_run cfgOK (its := [.res (.s (.own t_int (.int .i64) c1)) [] [] [9], .loop (fun _ => (.exit 0, spec_prReduce_L0X1 k1y1 k1y5 k1y12 k1yo2 k1yo4 k1yo9))])
    (ps := [SC cfg.P i_spec_prBoth [.s (.v (.pr .str .str) a0)] (.s (.own t_int (.int .i64) c1)) [],
      LoopSC cfg.P 2 (lb P_spec_prReduce 0) (spec_prReduce_L0a a1 (0 : Int) a0 ((⟨#[]⟩ : ByteArray), (⟨#[]⟩ : ByteArray)) c1) (.exit 0) (spec_prReduce_L0X1 k1y1 k1y5 k1y12 k1yo2 k1yo4 k1yo9)]) (by kernel_rfl) ⟨h1, h2, trivial⟩ get_spec_prReduce (by decide)

theorem spec_prReduce_p2 (a0 : (ByteArray × ByteArray)) (a1 : (List Int)) (c1 : (List Int)) (k1y1 : (List Int)) (k1y5 : Int) (k1y12 : Bool) (k1yo2 : (ByteArray × ByteArray)) (k1yo4 : (ByteArray × ByteArray)) (k1yo14 : (List Int))
    (h1 : SC cfg.P i_spec_prBoth [.s (.v (.pr .str .str) a0)] (.s (.own t_int (.int .i64) c1)) [])
    (h2 : LoopSC cfg.P 2 (lb P_spec_prReduce 0) (spec_prReduce_L0a a1 (0 : Int) a0 ((⟨#[]⟩ : ByteArray), (⟨#[]⟩ : ByteArray)) c1) (.exit 0) (spec_prReduce_L0X2 k1y1 k1y5 k1y12 k1yo2 k1yo4 k1yo14)) :
    SC cfg.P i_spec_prReduce [.s (.v (.pr .str .str) a0), .s (.v (.sl (.int .i64)) a1)] (.s (.v (.pr .str .str) k1yo2)) [] :=
  SC_of_run cfgOK (its := [.res (.s (.own t_int (.int .i64) c1)) [] [] [9], .loop (fun _ => (.exit 0, spec_prReduce_L0X2 k1y1 k1y5 k1y12 k1yo2 k1yo4 k1yo14))])
    (ps := [SC cfg.P i_spec_prBoth [.s (.v (.pr .str .str) a0)] (.s (.own t_int (.int .i64) c1)) [],
      LoopSC cfg.P 2 (lb P_spec_prReduce 0) (spec_prReduce_L0a a1 (0 : Int) a0 ((⟨#[]⟩ : ByteArray), (⟨#[]⟩ : ByteArray)) c1) (.exit 0) (spec_prReduce_L0X2 k1y1 k1y5 k1y12 k1yo2 k1yo4 k1yo14)]) (by kernel_rfl) ⟨h1, h2, trivial⟩ get_spec_prReduce (by decide)

end Go.AI
