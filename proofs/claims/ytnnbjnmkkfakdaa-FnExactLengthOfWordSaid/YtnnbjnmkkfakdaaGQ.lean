/- A part of the road: what it proves stands in its last texts. -/
import Derived.Test.YtnnbjnmkkfakdaaSIds
import Derived.Test.YtnnbjnmkkfakdaaProg
set_option autoImplicit false
set_option maxRecDepth 100000
set_option linter.unusedVariables false
namespace Go.AI
open Go.Proofs

/-! ### laws_FnExactLengthOfWord -/


theorem laws_FnExactLengthOfWord_p1 (a0 : (List Int))
    (h1 : ((List.length a0 : Nat) : Int) > (1048576 : Int)) :
    SC cfg.P i_laws_FnExactLengthOfWord [.s (.v (.sl (.int .i64)) a0)] (.s (.v .bool true)) [] :=
  SC_of_run cfgOK (its := [.bool true])
    (ps := [decide (((List.length a0 : Nat) : Int) > (1048576 : Int)) = true]) (by kernel_rfl) ⟨(decide_eq_true h1), trivial⟩ get_laws_FnExactLengthOfWord (by decide)

theorem laws_FnExactLengthOfWord_p2 (a0 : (List Int)) (c1 : (List Int)) (c2a : Int) (c2b : Bool) (c3 : (List Int)) (c4a : Int) (c4b : Bool) (c5 : (List Int))
    (h1 : ¬ (((List.length a0 : Nat) : Int) > (1048576 : Int)))
    (h2 : SC cfg.P i_laws_toIntS [.s (.v (.sl (.int .i64)) a0)] (.s (.own t_int (.int .i64) c1)) [])
    (h3 : SC cfg.P i_spec_LengthOfWord [.s (.v (.sl (.int .i64)) c1)] (.tup [.v (.int .i64) c2a, .v .bool c2b]) [])
    (h4 : SC cfg.P i_laws_toIntS [.s (.v (.sl (.int .i64)) a0)] (.s (.own t_int (.int .i64) c3)) [])
    (h5 : SC cfg.P i_impl_LengthOfWord [.s (.v (.sl (.int .i64)) c3)] (.tup [.v (.int .i64) c4a, .v .bool c4b]) [])
    (h6 : c4a = c2a)
    (h7 : (!(c4b == c2b)) = false)
    (h8 : SC cfg.P i_laws_toIntS [.s (.v (.sl (.int .i64)) a0)] (.s (.own t_int (.int .i64) c5)) [])
    (h9 : SC cfg.P i_laws_eqIntS [.s (.v (.sl (.int .i64)) c3), .s (.v (.sl (.int .i64)) c5)] (.s (.v .bool true)) []) :
    SC cfg.P i_laws_FnExactLengthOfWord [.s (.v (.sl (.int .i64)) a0)] (.s (.v .bool true)) [] :=
  SC_of_run cfgOK (its := [.bool false, .res (.s (.own t_int (.int .i64) c1)) [] [] [13], .res (.tup [.v (.int .i64) c2a, .v .bool c2b]) [] [] [], .res (.s (.own t_int (.int .i64) c3)) [] [] [18], .res (.tup [.v (.int .i64) c4a, .v .bool c4b]) [] [] [], .bool false, .bool false, .res (.s (.own t_int (.int .i64) c5)) [] [] [34], .res (.s (.v .bool true)) [] [] []])
    (ps := [decide (((List.length a0 : Nat) : Int) > (1048576 : Int)) = false,
      SC cfg.P i_laws_toIntS [.s (.v (.sl (.int .i64)) a0)] (.s (.own t_int (.int .i64) c1)) [],
      SC cfg.P i_spec_LengthOfWord [.s (.v (.sl (.int .i64)) c1)] (.tup [.v (.int .i64) c2a, .v .bool c2b]) [],
      SC cfg.P i_laws_toIntS [.s (.v (.sl (.int .i64)) a0)] (.s (.own t_int (.int .i64) c3)) [],
      SC cfg.P i_impl_LengthOfWord [.s (.v (.sl (.int .i64)) c3)] (.tup [.v (.int .i64) c4a, .v .bool c4b]) [],
      (c4a != c2a) = false,
      (!(c4b == c2b)) = false,
      SC cfg.P i_laws_toIntS [.s (.v (.sl (.int .i64)) a0)] (.s (.own t_int (.int .i64) c5)) [],
      SC cfg.P i_laws_eqIntS [.s (.v (.sl (.int .i64)) c3), .s (.v (.sl (.int .i64)) c5)] (.s (.v .bool true)) []]) (by kernel_rfl) ⟨(decide_eq_false h1), h2, h3, h4, h5, (bne_f h6), h7, h8, h9, trivial⟩ get_laws_FnExactLengthOfWord (by decide)

/-! ### spec_LengthOfWord -/


def spec_LengthOfWord_L0a (x16 : (List Int)) (x17 : Int) (x18 : Int) (xo4 : (ByteArray × ByteArray)) : St := mkSt 29 [(4, .s (.adr 4 none)), (16, .s (.v (.sl (.int .i64)) x16)), (17, .s (.v (.int .i64) x17)), (18, .s (.v (.int .i64) x18))] [(4, .box (.pr .str .str) xo4 false)]

def spec_LengthOfWord_L0X1 (y16 : (List Int)) (y17 : Int) (y18 : Int) (y19 : Bool) (yo4 : (ByteArray × ByteArray)) : St := mkSt 29 [(4, .s (.adr 4 none)), (16, .s (.v (.sl (.int .i64)) y16)), (17, .s (.v (.int .i64) y17)), (18, .s (.v (.int .i64) y18)), (19, .s (.v .bool y19))] [(4, .box (.pr .str .str) yo4 false)]

theorem spec_LengthOfWord_L0a_i1 (x16 : (List Int)) (x17 : Int) (x18 : Int) (xo4 : (ByteArray × ByteArray)) (dc1 : (ByteArray × ByteArray)) (dc2 : (ByteArray × ByteArray))
    (h1 : x18 < x17)
    (h2 : 0 ≤ x18)
    (h3 : x18 < (List.length x16 : Int))
    (h4 : SC cfg.P i_spec_wdLetter [.s (.v (.int .i64) (List.getD x16 (x18).toNat (0 : Int)))] (.s (.v (.pr .str .str) dc1)) [])
    (h5 : SC cfg.P i_spec_prTimes [.s (.v (.pr .str .str) xo4), .s (.v (.pr .str .str) dc1)] (.s (.v (.pr .str .str) dc2)) [])
    {e : AEx} {st : St} (next : LoopSC cfg.P 1 (lb P_spec_LengthOfWord 0) (spec_LengthOfWord_L0a x16 x17 (IntKind.wrap .i64 (x18 + (1 : Int))) dc2) e st) :
    LoopSC cfg.P 1 (lb P_spec_LengthOfWord 0) (spec_LengthOfWord_L0a x16 x17 x18 xo4) e st :=
  loop_iter cfgOK (f := i_spec_LengthOfWord) (its := [.bool true, .res (.s (.v (.pr .str .str) dc1)) [] [] [], .res (.s (.v (.pr .str .str) dc2)) [] [] []])
    (ps := [decide (x18 < x17) = true,
      0 ≤ x18,
      x18 < (List.length x16 : Int),
      SC cfg.P i_spec_wdLetter [.s (.v (.int .i64) (List.getD x16 (x18).toNat (0 : Int)))] (.s (.v (.pr .str .str) dc1)) [],
      SC cfg.P i_spec_prTimes [.s (.v (.pr .str .str) xo4), .s (.v (.pr .str .str) dc1)] (.s (.v (.pr .str .str) dc2)) []]) (st1 := spec_LengthOfWord_L0a x16 x17 (IntKind.wrap .i64 (x18 + (1 : Int))) dc2) (by kernel_rfl) ⟨(decide_eq_true h1), h2, h3, h4, h5, trivial⟩ next

theorem spec_LengthOfWord_L0a_x2 (x16 : (List Int)) (x17 : Int) (x18 : Int) (xo4 : (ByteArray × ByteArray))
    (h1 : ¬ (x18 < x17)) :
    LoopSC cfg.P 1 (lb P_spec_LengthOfWord 0) (spec_LengthOfWord_L0a x16 x17 x18 xo4) (.exit 0) (spec_LengthOfWord_L0X1 x16 x17 x18 false xo4) :=
  loop_out cfgOK (f := i_spec_LengthOfWord) (its := [.bool false])
    (ps := [decide (x18 < x17) = false]) (by kernel_rfl) ⟨(decide_eq_false h1), trivial⟩ (fun h => by cases h)

theorem spec_LengthOfWord_p1 (a0 : (List Int)) (c3 : (ByteArray × ByteArray)) (k1y16 : (List Int)) (k1y17 : Int) (k1y18 : Int) (k1y19 : Bool) (k1yo4 : (ByteArray × ByteArray)) (c4 : Int)
    (h1 : SC cfg.P i_spec_wdGood [.s (.v (.sl (.int .i64)) a0)] (.s (.v .bool true)) [])
    (h2 : SC cfg.P i_spec_wdIs [.s (.v (.sl (.int .i64)) a0), .s (.v (.int .i64) (1 : Int))] (.s (.v .bool true)) [])
    (h3 : SC cfg.P i_spec_prUnit [] (.s (.v (.pr .str .str) c3)) [])
    (h4 : LoopSC cfg.P 1 (lb P_spec_LengthOfWord 0) (spec_LengthOfWord_L0a a0 ((List.length a0 : Nat) : Int) (0 : Int) c3) (.exit 0) (spec_LengthOfWord_L0X1 k1y16 k1y17 k1y18 k1y19 k1yo4))
    (h5 : SC cfg.P i_spec_lnOf [.s (.v (.pr .str .str) k1yo4)] (.s (.v (.int .i64) c4)) []) :
    SC cfg.P i_spec_LengthOfWord [.s (.v (.sl (.int .i64)) a0)] (.tup [.v (.int .i64) c4, .v .bool true]) [] :=
  SC_of_run cfgOK (its := [.res (.s (.v .bool true)) [] [] [], .res (.s (.v .bool true)) [] [] [], .res (.s (.v (.pr .str .str) c3)) [] [] [], .loop (fun _ => (.exit 0, spec_LengthOfWord_L0X1 k1y16 k1y17 k1y18 k1y19 k1yo4)), .res (.s (.v (.int .i64) c4)) [] [] []])
    (ps := [SC cfg.P i_spec_wdGood [.s (.v (.sl (.int .i64)) a0)] (.s (.v .bool true)) [],
      SC cfg.P i_spec_wdIs [.s (.v (.sl (.int .i64)) a0), .s (.v (.int .i64) (1 : Int))] (.s (.v .bool true)) [],
      SC cfg.P i_spec_prUnit [] (.s (.v (.pr .str .str) c3)) [],
      LoopSC cfg.P 1 (lb P_spec_LengthOfWord 0) (spec_LengthOfWord_L0a a0 ((List.length a0 : Nat) : Int) (0 : Int) c3) (.exit 0) (spec_LengthOfWord_L0X1 k1y16 k1y17 k1y18 k1y19 k1yo4),
      SC cfg.P i_spec_lnOf [.s (.v (.pr .str .str) k1yo4)] (.s (.v (.int .i64) c4)) []]) (by kernel_rfl) ⟨h1, h2, h3, h4, h5, trivial⟩ get_spec_LengthOfWord (by decide)

theorem spec_LengthOfWord_p2 (a0 : (List Int))
    (h1 : SC cfg.P i_spec_wdGood [.s (.v (.sl (.int .i64)) a0)] (.s (.v .bool true)) [])
    (h2 : SC cfg.P i_spec_wdIs [.s (.v (.sl (.int .i64)) a0), .s (.v (.int .i64) (1 : Int))] (.s (.v .bool false)) []) :
    SC cfg.P i_spec_LengthOfWord [.s (.v (.sl (.int .i64)) a0)] (.tup [.v (.int .i64) (0 : Int), .v .bool false]) [] :=
  SC_of_run cfgOK (its := [.res (.s (.v .bool true)) [] [] [], .res (.s (.v .bool false)) [] [] []])
    (ps := [SC cfg.P i_spec_wdGood [.s (.v (.sl (.int .i64)) a0)] (.s (.v .bool true)) [],
      SC cfg.P i_spec_wdIs [.s (.v (.sl (.int .i64)) a0), .s (.v (.int .i64) (1 : Int))] (.s (.v .bool false)) []]) (by kernel_rfl) ⟨h1, h2, trivial⟩ get_spec_LengthOfWord (by decide)

theorem spec_LengthOfWord_p3 (a0 : (List Int))
    (h1 : SC cfg.P i_spec_wdGood [.s (.v (.sl (.int .i64)) a0)] (.s (.v .bool false)) []) :
    SC cfg.P i_spec_LengthOfWord [.s (.v (.sl (.int .i64)) a0)] (.tup [.v (.int .i64) (0 : Int), .v .bool false]) [] :=
  SC_of_run cfgOK (its := [.res (.s (.v .bool false)) [] [] []])
    (ps := [SC cfg.P i_spec_wdGood [.s (.v (.sl (.int .i64)) a0)] (.s (.v .bool false)) []]) (by kernel_rfl) ⟨h1, trivial⟩ get_spec_LengthOfWord (by decide)

/-! ### impl_LengthOfWord -/


def impl_LengthOfWord_L0a (x15 : (List Int)) (x16 : Int) (x17 : Int) (xo4 : (Tr × Tr)) : St := mkSt 28 [(4, .s (.adr 4 none)), (15, .s (.v (.sl (.int .i64)) x15)), (16, .s (.v (.int .i64) x16)), (17, .s (.v (.int .i64) x17))] [(4, .box (.pr .tree .tree) xo4 false)]

def impl_LengthOfWord_L0X1 (y15 : (List Int)) (y16 : Int) (y17 : Int) (y18 : Bool) (yo4 : (Tr × Tr)) : St := mkSt 28 [(4, .s (.adr 4 none)), (15, .s (.v (.sl (.int .i64)) y15)), (16, .s (.v (.int .i64) y16)), (17, .s (.v (.int .i64) y17)), (18, .s (.v .bool y18))] [(4, .box (.pr .tree .tree) yo4 false)]

theorem impl_LengthOfWord_L0a_i1 (x15 : (List Int)) (x16 : Int) (x17 : Int) (xo4 : (Tr × Tr)) (dc1 : (Tr × Tr)) (dc2 : (Tr × Tr))
    (h1 : x17 < x16)
    (h2 : 0 ≤ x17)
    (h3 : x17 < (List.length x15 : Int))
    (h4 : SC cfg.P i_impl_letter [.s (.v (.int .i64) (List.getD x15 (x17).toNat (0 : Int)))] (.s (.v (.pr .tree .tree) dc1)) [])
    (h5 : SC cfg.P i_impl_pair_times [.s (.v (.pr .tree .tree) xo4), .s (.v (.pr .tree .tree) dc1)] (.s (.v (.pr .tree .tree) dc2)) [])
    {e : AEx} {st : St} (next : LoopSC cfg.P 1 (lb P_impl_LengthOfWord 0) (impl_LengthOfWord_L0a x15 x16 (IntKind.wrap .i64 (x17 + (1 : Int))) dc2) e st) :
    LoopSC cfg.P 1 (lb P_impl_LengthOfWord 0) (impl_LengthOfWord_L0a x15 x16 x17 xo4) e st :=
  loop_iter cfgOK (f := i_impl_LengthOfWord) (its := [.bool true, .res (.s (.v (.pr .tree .tree) dc1)) [] [] [], .res (.s (.v (.pr .tree .tree) dc2)) [] [] []])
    (ps := [decide (x17 < x16) = true,
      0 ≤ x17,
      x17 < (List.length x15 : Int),
      SC cfg.P i_impl_letter [.s (.v (.int .i64) (List.getD x15 (x17).toNat (0 : Int)))] (.s (.v (.pr .tree .tree) dc1)) [],
      SC cfg.P i_impl_pair_times [.s (.v (.pr .tree .tree) xo4), .s (.v (.pr .tree .tree) dc1)] (.s (.v (.pr .tree .tree) dc2)) []]) (st1 := impl_LengthOfWord_L0a x15 x16 (IntKind.wrap .i64 (x17 + (1 : Int))) dc2) (by kernel_rfl) ⟨(decide_eq_true h1), h2, h3, h4, h5, trivial⟩ next

theorem impl_LengthOfWord_L0a_x2 (x15 : (List Int)) (x16 : Int) (x17 : Int) (xo4 : (Tr × Tr))
    (h1 : ¬ (x17 < x16)) :
    LoopSC cfg.P 1 (lb P_impl_LengthOfWord 0) (impl_LengthOfWord_L0a x15 x16 x17 xo4) (.exit 0) (impl_LengthOfWord_L0X1 x15 x16 x17 false xo4) :=
  loop_out cfgOK (f := i_impl_LengthOfWord) (its := [.bool false])
    (ps := [decide (x17 < x16) = false]) (by kernel_rfl) ⟨(decide_eq_false h1), trivial⟩ (fun h => by cases h)

theorem impl_LengthOfWord_p1 (a0 : (List Int))
    (h1 : ((List.length a0 : Nat) : Int) > (20 : Int)) :
    SC cfg.P i_impl_LengthOfWord [.s (.v (.sl (.int .i64)) a0)] (.tup [.v (.int .i64) (0 : Int), .v .bool false]) [] :=
  SC_of_run cfgOK (its := [.bool true])
    (ps := [decide (((List.length a0 : Nat) : Int) > (20 : Int)) = true]) (by kernel_rfl) ⟨(decide_eq_true h1), trivial⟩ get_impl_LengthOfWord (by decide)

theorem impl_LengthOfWord_p2 (a0 : (List Int)) (k1y15 : (List Int)) (k1y16 : Int) (k1y17 : Int) (k1y18 : Bool) (k1yo4 : (Tr × Tr)) (c2 : Int)
    (h1 : ¬ (((List.length a0 : Nat) : Int) > (20 : Int)))
    (h2 : SC cfg.P i_impl_areTwo [.s (.v (.sl (.int .i64)) a0)] (.s (.v .bool true)) [])
    (h3 : LoopSC cfg.P 1 (lb P_impl_LengthOfWord 0) (impl_LengthOfWord_L0a a0 ((List.length a0 : Nat) : Int) (0 : Int) (Tr.leaf, Tr.leaf)) (.exit 0) (impl_LengthOfWord_L0X1 k1y15 k1y16 k1y17 k1y18 k1yo4))
    (h4 : SC cfg.P i_impl_pair_length [.s (.v (.pr .tree .tree) k1yo4)] (.s (.v (.int .i64) c2)) []) :
    SC cfg.P i_impl_LengthOfWord [.s (.v (.sl (.int .i64)) a0)] (.tup [.v (.int .i64) c2, .v .bool true]) [] :=
  SC_of_run cfgOK (its := [.bool false, .res (.s (.v .bool true)) [] [] [], .loop (fun _ => (.exit 0, impl_LengthOfWord_L0X1 k1y15 k1y16 k1y17 k1y18 k1yo4)), .res (.s (.v (.int .i64) c2)) [] [] []])
    (ps := [decide (((List.length a0 : Nat) : Int) > (20 : Int)) = false,
      SC cfg.P i_impl_areTwo [.s (.v (.sl (.int .i64)) a0)] (.s (.v .bool true)) [],
      LoopSC cfg.P 1 (lb P_impl_LengthOfWord 0) (impl_LengthOfWord_L0a a0 ((List.length a0 : Nat) : Int) (0 : Int) (Tr.leaf, Tr.leaf)) (.exit 0) (impl_LengthOfWord_L0X1 k1y15 k1y16 k1y17 k1y18 k1yo4),
      SC cfg.P i_impl_pair_length [.s (.v (.pr .tree .tree) k1yo4)] (.s (.v (.int .i64) c2)) []]) (by kernel_rfl) ⟨(decide_eq_false h1), h2, h3, h4, trivial⟩ get_impl_LengthOfWord (by decide)

theorem impl_LengthOfWord_p3 (a0 : (List Int))
    (h1 : ¬ (((List.length a0 : Nat) : Int) > (20 : Int)))
    (h2 : SC cfg.P i_impl_areTwo [.s (.v (.sl (.int .i64)) a0)] (.s (.v .bool false)) []) :
    SC cfg.P i_impl_LengthOfWord [.s (.v (.sl (.int .i64)) a0)] (.tup [.v (.int .i64) (0 : Int), .v .bool false]) [] :=
  SC_of_run cfgOK (its := [.bool false, .res (.s (.v .bool false)) [] [] []])
    (ps := [decide (((List.length a0 : Nat) : Int) > (20 : Int)) = false,
      SC cfg.P i_impl_areTwo [.s (.v (.sl (.int .i64)) a0)] (.s (.v .bool false)) []]) (by kernel_rfl) ⟨(decide_eq_false h1), h2, trivial⟩ get_impl_LengthOfWord (by decide)

/-! ### impl_areTwo -/


def impl_areTwo_L0a (x5 : (List Int)) (x6 : Int) (x7 : Int) : St := mkSt 22 [(5, .s (.v (.sl (.int .i64)) x5)), (6, .s (.v (.int .i64) x6)), (7, .s (.v (.int .i64) x7))] []

def impl_areTwo_L0X1 (y2 : Bool) : St := mkSt 22 [(2, .s (.v .bool y2))] []

def impl_areTwo_L0X2 (y5 : (List Int)) (y6 : Int) (y7 : Int) (y8 : Bool) : St := mkSt 22 [(5, .s (.v (.sl (.int .i64)) y5)), (6, .s (.v (.int .i64) y6)), (7, .s (.v (.int .i64) y7)), (8, .s (.v .bool y8))] []

theorem impl_areTwo_L0a_x1 (x5 : (List Int)) (x6 : Int) (x7 : Int)
    (h1 : x7 < x6)
    (h2 : 0 ≤ x7)
    (h3 : x7 < (List.length x5 : Int))
    (h4 : (List.getD x5 (x7).toNat (0 : Int)) = (0 : Int)) :
    LoopSC cfg.P 1 (lb P_impl_areTwo 0) (impl_areTwo_L0a x5 x6 x7) (.ret) (impl_areTwo_L0X1 false) :=
  loop_out cfgOK (f := i_impl_areTwo) (its := [.bool true, .bool true])
    (ps := [decide (x7 < x6) = true,
      0 ≤ x7,
      x7 < (List.length x5 : Int),
      ((List.getD x5 (x7).toNat (0 : Int)) == (0 : Int)) = true]) (by kernel_rfl) ⟨(decide_eq_true h1), h2, h3, (beq_t h4), trivial⟩ (fun h => by cases h)

theorem impl_areTwo_L0a_x2 (x5 : (List Int)) (x6 : Int) (x7 : Int)
    (h1 : x7 < x6)
    (h2 : 0 ≤ x7)
    (h3 : x7 < (List.length x5 : Int))
    (h4 : (List.getD x5 (x7).toNat (0 : Int)) ≠ (0 : Int))
    (h5 : (List.getD x5 (x7).toNat (0 : Int)) < (-2 : Int)) :
    LoopSC cfg.P 1 (lb P_impl_areTwo 0) (impl_areTwo_L0a x5 x6 x7) (.ret) (impl_areTwo_L0X1 false) :=
  loop_out cfgOK (f := i_impl_areTwo) (its := [.bool true, .bool false, .bool true])
    (ps := [decide (x7 < x6) = true,
      0 ≤ x7,
      x7 < (List.length x5 : Int),
      ((List.getD x5 (x7).toNat (0 : Int)) == (0 : Int)) = false,
      decide ((List.getD x5 (x7).toNat (0 : Int)) < (-2 : Int)) = true]) (by kernel_rfl) ⟨(decide_eq_true h1), h2, h3, (beq_f h4), (decide_eq_true h5), trivial⟩ (fun h => by cases h)

theorem impl_areTwo_L0a_x3 (x5 : (List Int)) (x6 : Int) (x7 : Int)
    (h1 : x7 < x6)
    (h2 : 0 ≤ x7)
    (h3 : x7 < (List.length x5 : Int))
    (h4 : (List.getD x5 (x7).toNat (0 : Int)) ≠ (0 : Int))
    (h5 : ¬ ((List.getD x5 (x7).toNat (0 : Int)) < (-2 : Int)))
    (h6 : (List.getD x5 (x7).toNat (0 : Int)) > (2 : Int)) :
    LoopSC cfg.P 1 (lb P_impl_areTwo 0) (impl_areTwo_L0a x5 x6 x7) (.ret) (impl_areTwo_L0X1 false) :=
  loop_out cfgOK (f := i_impl_areTwo) (its := [.bool true, .bool false, .bool false, .bool true])
    (ps := [decide (x7 < x6) = true,
      0 ≤ x7,
      x7 < (List.length x5 : Int),
      ((List.getD x5 (x7).toNat (0 : Int)) == (0 : Int)) = false,
      decide ((List.getD x5 (x7).toNat (0 : Int)) < (-2 : Int)) = false,
      decide ((List.getD x5 (x7).toNat (0 : Int)) > (2 : Int)) = true]) (by kernel_rfl) ⟨(decide_eq_true h1), h2, h3, (beq_f h4), (decide_eq_false h5), (decide_eq_true h6), trivial⟩ (fun h => by cases h)

theorem impl_areTwo_L0a_i4 (x5 : (List Int)) (x6 : Int) (x7 : Int)
    (h1 : x7 < x6)
    (h2 : 0 ≤ x7)
    (h3 : x7 < (List.length x5 : Int))
    (h4 : (List.getD x5 (x7).toNat (0 : Int)) ≠ (0 : Int))
    (h5 : ¬ ((List.getD x5 (x7).toNat (0 : Int)) < (-2 : Int)))
    (h6 : ¬ ((List.getD x5 (x7).toNat (0 : Int)) > (2 : Int)))
    {e : AEx} {st : St} (next : LoopSC cfg.P 1 (lb P_impl_areTwo 0) (impl_areTwo_L0a x5 x6 (IntKind.wrap .i64 (x7 + (1 : Int)))) e st) :
    LoopSC cfg.P 1 (lb P_impl_areTwo 0) (impl_areTwo_L0a x5 x6 x7) e st :=
  loop_iter cfgOK (f := i_impl_areTwo) (its := [.bool true, .bool false, .bool false, .bool false])
    (ps := [decide (x7 < x6) = true,
      0 ≤ x7,
      x7 < (List.length x5 : Int),
      ((List.getD x5 (x7).toNat (0 : Int)) == (0 : Int)) = false,
      decide ((List.getD x5 (x7).toNat (0 : Int)) < (-2 : Int)) = false,
      decide ((List.getD x5 (x7).toNat (0 : Int)) > (2 : Int)) = false]) (st1 := impl_areTwo_L0a x5 x6 (IntKind.wrap .i64 (x7 + (1 : Int)))) (by kernel_rfl) ⟨(decide_eq_true h1), h2, h3, (beq_f h4), (decide_eq_false h5), (decide_eq_false h6), trivial⟩ next

theorem impl_areTwo_L0a_x5 (x5 : (List Int)) (x6 : Int) (x7 : Int)
    (h1 : ¬ (x7 < x6)) :
    LoopSC cfg.P 1 (lb P_impl_areTwo 0) (impl_areTwo_L0a x5 x6 x7) (.exit 0) (impl_areTwo_L0X2 x5 x6 x7 false) :=
  loop_out cfgOK (f := i_impl_areTwo) (its := [.bool false])
    (ps := [decide (x7 < x6) = false]) (by kernel_rfl) ⟨(decide_eq_false h1), trivial⟩ (fun h => by cases h)

theorem impl_areTwo_p1 (a0 : (List Int)) (k1y2 : Bool)
    (h1 : LoopSC cfg.P 1 (lb P_impl_areTwo 0) (impl_areTwo_L0a a0 ((List.length a0 : Nat) : Int) (0 : Int)) (.ret) (impl_areTwo_L0X1 k1y2)) :
    SC cfg.P i_impl_areTwo [.s (.v (.sl (.int .i64)) a0)] (.s (.v .bool k1y2)) [] :=
  SC_of_run cfgOK (its := [.loop (fun _ => (.ret, impl_areTwo_L0X1 k1y2))])
    (ps := [LoopSC cfg.P 1 (lb P_impl_areTwo 0) (impl_areTwo_L0a a0 ((List.length a0 : Nat) : Int) (0 : Int)) (.ret) (impl_areTwo_L0X1 k1y2)]) (by kernel_rfl) ⟨h1, trivial⟩ get_impl_areTwo (by decide)

theorem impl_areTwo_p2 (a0 : (List Int)) (k1y5 : (List Int)) (k1y6 : Int) (k1y7 : Int) (k1y8 : Bool)
    (h1 : LoopSC cfg.P 1 (lb P_impl_areTwo 0) (impl_areTwo_L0a a0 ((List.length a0 : Nat) : Int) (0 : Int)) (.exit 0) (impl_areTwo_L0X2 k1y5 k1y6 k1y7 k1y8)) :
    SC cfg.P i_impl_areTwo [.s (.v (.sl (.int .i64)) a0)] (.s (.v .bool true)) [] :=
  SC_of_run cfgOK (its := [.loop (fun _ => (.exit 0, impl_areTwo_L0X2 k1y5 k1y6 k1y7 k1y8))])
    (ps := [LoopSC cfg.P 1 (lb P_impl_areTwo 0) (impl_areTwo_L0a a0 ((List.length a0 : Nat) : Int) (0 : Int)) (.exit 0) (impl_areTwo_L0X2 k1y5 k1y6 k1y7 k1y8)]) (by kernel_rfl) ⟨h1, trivial⟩ get_impl_areTwo (by decide)

end Go.AI
