/- A part of the road: what it proves stands in its last texts. -/
import Derived.Test.YtcnmifjicepkhaaDoorSIds
import Derived.Test.YtcnmifjicepkhaaDoorProg
set_option autoImplicit false
set_option maxRecDepth 100000
set_option linter.unusedVariables false
namespace Go.AI
open Go.Proofs

/-! ### laws_FnExactImageOfAddress -/


theorem laws_FnExactImageOfAddress_p1 (a0 : (ByteArray × ByteArray)) (a1 : ByteArray)
    (h1 : ((a1).size : Int) > (1048576 : Int)) :
    SC cfg.P i_laws_FnExactImageOfAddress [.s (.v (.pr .str .str) a0), .s (.v .str a1)] (.s (.v .bool true)) [] :=
  SC_of_run cfgOK (its := [.bool true])
    (ps := [decide (((a1).size : Int) > (1048576 : Int)) = true]) (by kernel_rfl) ⟨(decide_eq_true h1), trivial⟩ get_laws_FnExactImageOfAddress (by decide)

theorem laws_FnExactImageOfAddress_p2 (a0 : (ByteArray × ByteArray)) (a1 : ByteArray) (c1 : Int)
    (h1 : ¬ (((a1).size : Int) > (1048576 : Int)))
    (h2 : SC cfg.P i_laws_szPair [.s (.v (.pr .str .str) a0), .s (.v (.int .i64) (1048576 : Int))] (.s (.v (.int .i64) c1)) [])
    (h3 : c1 < (0 : Int)) :
    SC cfg.P i_laws_FnExactImageOfAddress [.s (.v (.pr .str .str) a0), .s (.v .str a1)] (.s (.v .bool true)) [] :=
  SC_of_run cfgOK (its := [.bool false, .res (.s (.v (.int .i64) c1)) [] [] [], .bool true])
    (ps := [decide (((a1).size : Int) > (1048576 : Int)) = false,
      SC cfg.P i_laws_szPair [.s (.v (.pr .str .str) a0), .s (.v (.int .i64) (1048576 : Int))] (.s (.v (.int .i64) c1)) [],
      decide (c1 < (0 : Int)) = true]) (by kernel_rfl) ⟨(decide_eq_false h1), h2, (decide_eq_true h3), trivial⟩ get_laws_FnExactImageOfAddress (by decide)

theorem laws_FnExactImageOfAddress_p3 (a0 : (ByteArray × ByteArray)) (a1 : ByteArray) (c1 : Int) (c2 : (ByteArray × ByteArray)) (c3a : ByteArray) (c3b : Bool) (c4 : (ByteArray × ByteArray)) (c5a : ByteArray) (c5b : Bool)
    (h1 : ¬ (((a1).size : Int) > (1048576 : Int)))
    (h2 : SC cfg.P i_laws_szPair [.s (.v (.pr .str .str) a0), .s (.v (.int .i64) (1048576 : Int))] (.s (.v (.int .i64) c1)) [])
    (h3 : ¬ (c1 < (0 : Int)))
    (h4 : SC cfg.P i_laws_toPair [.s (.v (.pr .str .str) a0)] (.s (.v (.pr .str .str) c2)) [])
    (h5 : SC cfg.P i_spec_ImageOfAddress [.s (.v (.pr .str .str) c2), .s (.v .str a1)] (.tup [.v .str c3a, .v .bool c3b]) [])
    (h6 : SC cfg.P i_laws_toPair [.s (.v (.pr .str .str) a0)] (.s (.v (.pr .str .str) c4)) [])
    (h7 : SC cfg.P i_impl_ImageOfAddress [.s (.v (.pr .str .str) c4), .s (.v .str a1)] (.tup [.v .str c5a, .v .bool c5b]) [])
    (h8 : c5a = c3a)
    (h9 : (!(c5b == c3b)) = false) :
    SC cfg.P i_laws_FnExactImageOfAddress [.s (.v (.pr .str .str) a0), .s (.v .str a1)] (.s (.v .bool true)) [] :=
  SC_of_run cfgOK (its := [.bool false, .res (.s (.v (.int .i64) c1)) [] [] [], .bool false, .res (.s (.v (.pr .str .str) c2)) [] [] [], .res (.tup [.v .str c3a, .v .bool c3b]) [] [] [], .res (.s (.v (.pr .str .str) c4)) [] [] [], .res (.tup [.v .str c5a, .v .bool c5b]) [] [] [], .bool false, .bool false])
    (ps := [decide (((a1).size : Int) > (1048576 : Int)) = false,
      SC cfg.P i_laws_szPair [.s (.v (.pr .str .str) a0), .s (.v (.int .i64) (1048576 : Int))] (.s (.v (.int .i64) c1)) [],
      decide (c1 < (0 : Int)) = false,
      SC cfg.P i_laws_toPair [.s (.v (.pr .str .str) a0)] (.s (.v (.pr .str .str) c2)) [],
      SC cfg.P i_spec_ImageOfAddress [.s (.v (.pr .str .str) c2), .s (.v .str a1)] (.tup [.v .str c3a, .v .bool c3b]) [],
      SC cfg.P i_laws_toPair [.s (.v (.pr .str .str) a0)] (.s (.v (.pr .str .str) c4)) [],
      SC cfg.P i_impl_ImageOfAddress [.s (.v (.pr .str .str) c4), .s (.v .str a1)] (.tup [.v .str c5a, .v .bool c5b]) [],
      (!((c5a).toList == (c3a).toList)) = false,
      (!(c5b == c3b)) = false]) (by kernel_rfl) ⟨(decide_eq_false h1), h2, (decide_eq_false h3), h4, h5, h6, h7, (nseq_f h8), h9, trivial⟩ get_laws_FnExactImageOfAddress (by decide)

/-! ### spec_ImageOfAddress -/


def spec_ImageOfAddress_L0a (x1 : ByteArray) (x6 : (List ByteArray)) (x23 : (List ByteArray)) (x24 : Int) (x25 : Int) : St := mkSt 57 [(1, .s (.v .str x1)), (6, .s (.v (.sl .str) x6)), (23, .s (.v (.sl .str) x23)), (24, .s (.v (.int .i64) x24)), (25, .s (.v (.int .i64) x25))] []

def spec_ImageOfAddress_L0X1 (y4 : ByteArray) (y5 : Bool) : St := mkSt 57 [(4, .s (.v .str y4)), (5, .s (.v .bool y5))] []

def spec_ImageOfAddress_L0X2 (y1 : ByteArray) (y6 : (List ByteArray)) (y23 : (List ByteArray)) (y24 : Int) (y25 : Int) (y26 : Bool) : St := mkSt 57 [(1, .s (.v .str y1)), (6, .s (.v (.sl .str) y6)), (23, .s (.v (.sl .str) y23)), (24, .s (.v (.int .i64) y24)), (25, .s (.v (.int .i64) y25)), (26, .s (.v .bool y26))] []

theorem spec_ImageOfAddress_L0a_x1 (x1 : ByteArray) (x6 : (List ByteArray)) (x23 : (List ByteArray)) (x24 : Int) (x25 : Int)
    (h1 : x25 < x24)
    (h2 : 0 ≤ x25)
    (h3 : x25 < (List.length x23 : Int))
    (h4 : (((List.getD x23 (x25).toNat (⟨#[]⟩ : ByteArray))).size : Int) ≤ ((x1).size : Int))
    (h5 : 0 ≤ (((List.getD x23 (x25).toNat (⟨#[]⟩ : ByteArray))).size : Int))
    (h6 : (ByteArray.extract x1 ((0 : Int)).toNat ((((List.getD x23 (x25).toNat (⟨#[]⟩ : ByteArray))).size : Int)).toNat) = (List.getD x23 (x25).toNat (⟨#[]⟩ : ByteArray)))
    (h7 : x25 < (List.length x6 : Int))
    (h8 : ((List.getD x6 (x25).toNat (⟨#[]⟩ : ByteArray))).size + ((ByteArray.extract x1 ((((List.getD x23 (x25).toNat (⟨#[]⟩ : ByteArray))).size : Int)).toNat (((x1).size : Int)).toNat)).size ≤ 2 ^ 62)
    (h9 : ((((List.getD x6 (x25).toNat (⟨#[]⟩ : ByteArray)) ++ (ByteArray.extract x1 ((((List.getD x23 (x25).toNat (⟨#[]⟩ : ByteArray))).size : Int)).toNat (((x1).size : Int)).toNat))).size : Int) > (10 : Int)) :
    LoopSC cfg.P 2 (lb P_spec_ImageOfAddress 0) (spec_ImageOfAddress_L0a x1 x6 x23 x24 x25) (.ret) (spec_ImageOfAddress_L0X1 (⟨#[]⟩ : ByteArray) false) :=
  loop_out cfgOK (f := i_spec_ImageOfAddress) (its := [.bool true, .bool true, .bool true, .bool true])
    (ps := [decide (x25 < x24) = true,
      0 ≤ x25,
      x25 < (List.length x23 : Int),
      decide ((((List.getD x23 (x25).toNat (⟨#[]⟩ : ByteArray))).size : Int) ≤ ((x1).size : Int)) = true,
      0 ≤ (((List.getD x23 (x25).toNat (⟨#[]⟩ : ByteArray))).size : Int),
      (((List.getD x23 (x25).toNat (⟨#[]⟩ : ByteArray))).size : Int) ≤ ((x1).size : Int),
      (((ByteArray.extract x1 ((0 : Int)).toNat ((((List.getD x23 (x25).toNat (⟨#[]⟩ : ByteArray))).size : Int)).toNat)).toList == ((List.getD x23 (x25).toNat (⟨#[]⟩ : ByteArray))).toList) = true,
      0 ≤ x25,
      x25 < (List.length x6 : Int),
      0 ≤ (((List.getD x23 (x25).toNat (⟨#[]⟩ : ByteArray))).size : Int),
      (((List.getD x23 (x25).toNat (⟨#[]⟩ : ByteArray))).size : Int) ≤ ((x1).size : Int),
      ((List.getD x6 (x25).toNat (⟨#[]⟩ : ByteArray))).size + ((ByteArray.extract x1 ((((List.getD x23 (x25).toNat (⟨#[]⟩ : ByteArray))).size : Int)).toNat (((x1).size : Int)).toNat)).size ≤ 2 ^ 62,
      decide (((((List.getD x6 (x25).toNat (⟨#[]⟩ : ByteArray)) ++ (ByteArray.extract x1 ((((List.getD x23 (x25).toNat (⟨#[]⟩ : ByteArray))).size : Int)).toNat (((x1).size : Int)).toNat))).size : Int) > (10 : Int)) = true]) (by kernel_rfl) ⟨(decide_eq_true h1), h2, h3, (decide_eq_true h4), h5, h4, (seq_t h6), h2, h7, h5, h4, h8, (decide_eq_true h9), trivial⟩ (fun h => by cases h)

theorem spec_ImageOfAddress_L0a_x2 (x1 : ByteArray) (x6 : (List ByteArray)) (x23 : (List ByteArray)) (x24 : Int) (x25 : Int)
    (h1 : x25 < x24)
    (h2 : 0 ≤ x25)
    (h3 : x25 < (List.length x23 : Int))
    (h4 : (((List.getD x23 (x25).toNat (⟨#[]⟩ : ByteArray))).size : Int) ≤ ((x1).size : Int))
    (h5 : 0 ≤ (((List.getD x23 (x25).toNat (⟨#[]⟩ : ByteArray))).size : Int))
    (h6 : (ByteArray.extract x1 ((0 : Int)).toNat ((((List.getD x23 (x25).toNat (⟨#[]⟩ : ByteArray))).size : Int)).toNat) = (List.getD x23 (x25).toNat (⟨#[]⟩ : ByteArray)))
    (h7 : x25 < (List.length x6 : Int))
    (h8 : ((List.getD x6 (x25).toNat (⟨#[]⟩ : ByteArray))).size + ((ByteArray.extract x1 ((((List.getD x23 (x25).toNat (⟨#[]⟩ : ByteArray))).size : Int)).toNat (((x1).size : Int)).toNat)).size ≤ 2 ^ 62)
    (h9 : ¬ (((((List.getD x6 (x25).toNat (⟨#[]⟩ : ByteArray)) ++ (ByteArray.extract x1 ((((List.getD x23 (x25).toNat (⟨#[]⟩ : ByteArray))).size : Int)).toNat (((x1).size : Int)).toNat))).size : Int) > (10 : Int))) :
    LoopSC cfg.P 2 (lb P_spec_ImageOfAddress 0) (spec_ImageOfAddress_L0a x1 x6 x23 x24 x25) (.ret) (spec_ImageOfAddress_L0X1 ((List.getD x6 (x25).toNat (⟨#[]⟩ : ByteArray)) ++ (ByteArray.extract x1 ((((List.getD x23 (x25).toNat (⟨#[]⟩ : ByteArray))).size : Int)).toNat (((x1).size : Int)).toNat)) true) :=
  loop_out cfgOK (f := i_spec_ImageOfAddress) (its := [.bool true, .bool true, .bool true, .bool false])
    (ps := [decide (x25 < x24) = true,
      0 ≤ x25,
      x25 < (List.length x23 : Int),
      decide ((((List.getD x23 (x25).toNat (⟨#[]⟩ : ByteArray))).size : Int) ≤ ((x1).size : Int)) = true,
      0 ≤ (((List.getD x23 (x25).toNat (⟨#[]⟩ : ByteArray))).size : Int),
      (((List.getD x23 (x25).toNat (⟨#[]⟩ : ByteArray))).size : Int) ≤ ((x1).size : Int),
      (((ByteArray.extract x1 ((0 : Int)).toNat ((((List.getD x23 (x25).toNat (⟨#[]⟩ : ByteArray))).size : Int)).toNat)).toList == ((List.getD x23 (x25).toNat (⟨#[]⟩ : ByteArray))).toList) = true,
      0 ≤ x25,
      x25 < (List.length x6 : Int),
      0 ≤ (((List.getD x23 (x25).toNat (⟨#[]⟩ : ByteArray))).size : Int),
      (((List.getD x23 (x25).toNat (⟨#[]⟩ : ByteArray))).size : Int) ≤ ((x1).size : Int),
      ((List.getD x6 (x25).toNat (⟨#[]⟩ : ByteArray))).size + ((ByteArray.extract x1 ((((List.getD x23 (x25).toNat (⟨#[]⟩ : ByteArray))).size : Int)).toNat (((x1).size : Int)).toNat)).size ≤ 2 ^ 62,
      decide (((((List.getD x6 (x25).toNat (⟨#[]⟩ : ByteArray)) ++ (ByteArray.extract x1 ((((List.getD x23 (x25).toNat (⟨#[]⟩ : ByteArray))).size : Int)).toNat (((x1).size : Int)).toNat))).size : Int) > (10 : Int)) = false]) (by kernel_rfl) ⟨(decide_eq_true h1), h2, h3, (decide_eq_true h4), h5, h4, (seq_t h6), h2, h7, h5, h4, h8, (decide_eq_false h9), trivial⟩ (fun h => by cases h)

theorem spec_ImageOfAddress_L0a_i3 (x1 : ByteArray) (x6 : (List ByteArray)) (x23 : (List ByteArray)) (x24 : Int) (x25 : Int)
    (h1 : x25 < x24)
    (h2 : 0 ≤ x25)
    (h3 : x25 < (List.length x23 : Int))
    (h4 : (((List.getD x23 (x25).toNat (⟨#[]⟩ : ByteArray))).size : Int) ≤ ((x1).size : Int))
    (h5 : 0 ≤ (((List.getD x23 (x25).toNat (⟨#[]⟩ : ByteArray))).size : Int))
    (h6 : (ByteArray.extract x1 ((0 : Int)).toNat ((((List.getD x23 (x25).toNat (⟨#[]⟩ : ByteArray))).size : Int)).toNat) ≠ (List.getD x23 (x25).toNat (⟨#[]⟩ : ByteArray)))
    {e : AEx} {st : St} (next : LoopSC cfg.P 2 (lb P_spec_ImageOfAddress 0) (spec_ImageOfAddress_L0a x1 x6 x23 x24 (IntKind.wrap .i64 (x25 + (1 : Int)))) e st) :
    LoopSC cfg.P 2 (lb P_spec_ImageOfAddress 0) (spec_ImageOfAddress_L0a x1 x6 x23 x24 x25) e st :=
  loop_iter cfgOK (f := i_spec_ImageOfAddress) (its := [.bool true, .bool true, .bool false])
    (ps := [decide (x25 < x24) = true,
      0 ≤ x25,
      x25 < (List.length x23 : Int),
      decide ((((List.getD x23 (x25).toNat (⟨#[]⟩ : ByteArray))).size : Int) ≤ ((x1).size : Int)) = true,
      0 ≤ (((List.getD x23 (x25).toNat (⟨#[]⟩ : ByteArray))).size : Int),
      (((List.getD x23 (x25).toNat (⟨#[]⟩ : ByteArray))).size : Int) ≤ ((x1).size : Int),
      (((ByteArray.extract x1 ((0 : Int)).toNat ((((List.getD x23 (x25).toNat (⟨#[]⟩ : ByteArray))).size : Int)).toNat)).toList == ((List.getD x23 (x25).toNat (⟨#[]⟩ : ByteArray))).toList) = false]) (st1 := spec_ImageOfAddress_L0a x1 x6 x23 x24 (IntKind.wrap .i64 (x25 + (1 : Int)))) (by kernel_rfl) ⟨(decide_eq_true h1), h2, h3, (decide_eq_true h4), h5, h4, (seq_f h6), trivial⟩ next

theorem spec_ImageOfAddress_L0a_i4 (x1 : ByteArray) (x6 : (List ByteArray)) (x23 : (List ByteArray)) (x24 : Int) (x25 : Int)
    (h1 : x25 < x24)
    (h2 : 0 ≤ x25)
    (h3 : x25 < (List.length x23 : Int))
    (h4 : ¬ ((((List.getD x23 (x25).toNat (⟨#[]⟩ : ByteArray))).size : Int) ≤ ((x1).size : Int)))
    {e : AEx} {st : St} (next : LoopSC cfg.P 2 (lb P_spec_ImageOfAddress 0) (spec_ImageOfAddress_L0a x1 x6 x23 x24 (IntKind.wrap .i64 (x25 + (1 : Int)))) e st) :
    LoopSC cfg.P 2 (lb P_spec_ImageOfAddress 0) (spec_ImageOfAddress_L0a x1 x6 x23 x24 x25) e st :=
  loop_iter cfgOK (f := i_spec_ImageOfAddress) (its := [.bool true, .bool false])
    (ps := [decide (x25 < x24) = true,
      0 ≤ x25,
      x25 < (List.length x23 : Int),
      decide ((((List.getD x23 (x25).toNat (⟨#[]⟩ : ByteArray))).size : Int) ≤ ((x1).size : Int)) = false]) (st1 := spec_ImageOfAddress_L0a x1 x6 x23 x24 (IntKind.wrap .i64 (x25 + (1 : Int)))) (by kernel_rfl) ⟨(decide_eq_true h1), h2, h3, (decide_eq_false h4), trivial⟩ next

theorem spec_ImageOfAddress_L0a_x5 (x1 : ByteArray) (x6 : (List ByteArray)) (x23 : (List ByteArray)) (x24 : Int) (x25 : Int)
    (h1 : ¬ (x25 < x24)) :
    LoopSC cfg.P 2 (lb P_spec_ImageOfAddress 0) (spec_ImageOfAddress_L0a x1 x6 x23 x24 x25) (.exit 0) (spec_ImageOfAddress_L0X2 x1 x6 x23 x24 x25 false) :=
  loop_out cfgOK (f := i_spec_ImageOfAddress) (its := [.bool false])
    (ps := [decide (x25 < x24) = false]) (by kernel_rfl) ⟨(decide_eq_false h1), trivial⟩ (fun h => by cases h)

theorem spec_ImageOfAddress_p1 (a0 : (ByteArray × ByteArray)) (a1 : ByteArray) (c3 : (List ByteArray)) (c4 : (List ByteArray)) (k1y4 : ByteArray) (k1y5 : Bool)
    (h1 : SC cfg.P i_spec_prGood [.s (.v (.pr .str .str) a0)] (.s (.v .bool true)) [])
    (h2 : SC cfg.P i_spec_mpBits [.s (.v .str a1)] (.s (.v .bool true)) [])
    (h3 : SC cfg.P i_spec_trAddresses [.s (.v .str a0.2), .s (.v .str (⟨#[]⟩ : ByteArray))] (.s (.v (.sl .str) c3)) [])
    (h4 : SC cfg.P i_spec_trAddresses [.s (.v .str a0.1), .s (.v .str (⟨#[]⟩ : ByteArray))] (.s (.v (.sl .str) c4)) [])
    (h5 : LoopSC cfg.P 2 (lb P_spec_ImageOfAddress 0) (spec_ImageOfAddress_L0a a1 c3 c4 ((List.length c4 : Nat) : Int) (0 : Int)) (.ret) (spec_ImageOfAddress_L0X1 k1y4 k1y5)) :
    SC cfg.P i_spec_ImageOfAddress [.s (.v (.pr .str .str) a0), .s (.v .str a1)] (.tup [.v .str k1y4, .v .bool k1y5]) [] :=
  SC_of_run cfgOK (its := [.res (.s (.v .bool true)) [] [] [], .res (.s (.v .bool true)) [] [] [], .res (.s (.v (.sl .str) c3)) [] [] [], .res (.s (.v (.sl .str) c4)) [] [] [], .loop (fun _ => (.ret, spec_ImageOfAddress_L0X1 k1y4 k1y5))])
    (ps := [SC cfg.P i_spec_prGood [.s (.v (.pr .str .str) a0)] (.s (.v .bool true)) [],
      SC cfg.P i_spec_mpBits [.s (.v .str a1)] (.s (.v .bool true)) [],
      SC cfg.P i_spec_trAddresses [.s (.v .str a0.2), .s (.v .str (⟨#[]⟩ : ByteArray))] (.s (.v (.sl .str) c3)) [],
      SC cfg.P i_spec_trAddresses [.s (.v .str a0.1), .s (.v .str (⟨#[]⟩ : ByteArray))] (.s (.v (.sl .str) c4)) [],
      LoopSC cfg.P 2 (lb P_spec_ImageOfAddress 0) (spec_ImageOfAddress_L0a a1 c3 c4 ((List.length c4 : Nat) : Int) (0 : Int)) (.ret) (spec_ImageOfAddress_L0X1 k1y4 k1y5)]) (by kernel_rfl) ⟨h1, h2, h3, h4, h5, trivial⟩ get_spec_ImageOfAddress (by decide)

theorem spec_ImageOfAddress_p2 (a0 : (ByteArray × ByteArray)) (a1 : ByteArray) (c3 : (List ByteArray)) (c4 : (List ByteArray)) (k1y1 : ByteArray) (k1y6 : (List ByteArray)) (k1y23 : (List ByteArray)) (k1y24 : Int) (k1y25 : Int) (k1y26 : Bool)
    (h1 : SC cfg.P i_spec_prGood [.s (.v (.pr .str .str) a0)] (.s (.v .bool true)) [])
    (h2 : SC cfg.P i_spec_mpBits [.s (.v .str a1)] (.s (.v .bool true)) [])
    (h3 : SC cfg.P i_spec_trAddresses [.s (.v .str a0.2), .s (.v .str (⟨#[]⟩ : ByteArray))] (.s (.v (.sl .str) c3)) [])
    (h4 : SC cfg.P i_spec_trAddresses [.s (.v .str a0.1), .s (.v .str (⟨#[]⟩ : ByteArray))] (.s (.v (.sl .str) c4)) [])
    (h5 : LoopSC cfg.P 2 (lb P_spec_ImageOfAddress 0) (spec_ImageOfAddress_L0a a1 c3 c4 ((List.length c4 : Nat) : Int) (0 : Int)) (.exit 0) (spec_ImageOfAddress_L0X2 k1y1 k1y6 k1y23 k1y24 k1y25 k1y26)) :
    SC cfg.P i_spec_ImageOfAddress [.s (.v (.pr .str .str) a0), .s (.v .str a1)] (.tup [.v .str (⟨#[]⟩ : ByteArray), .v .bool false]) [] :=
  SC_of_run cfgOK (its := [.res (.s (.v .bool true)) [] [] [], .res (.s (.v .bool true)) [] [] [], .res (.s (.v (.sl .str) c3)) [] [] [], .res (.s (.v (.sl .str) c4)) [] [] [], .loop (fun _ => (.exit 0, spec_ImageOfAddress_L0X2 k1y1 k1y6 k1y23 k1y24 k1y25 k1y26))])
    (ps := [SC cfg.P i_spec_prGood [.s (.v (.pr .str .str) a0)] (.s (.v .bool true)) [],
      SC cfg.P i_spec_mpBits [.s (.v .str a1)] (.s (.v .bool true)) [],
      SC cfg.P i_spec_trAddresses [.s (.v .str a0.2), .s (.v .str (⟨#[]⟩ : ByteArray))] (.s (.v (.sl .str) c3)) [],
      SC cfg.P i_spec_trAddresses [.s (.v .str a0.1), .s (.v .str (⟨#[]⟩ : ByteArray))] (.s (.v (.sl .str) c4)) [],
      LoopSC cfg.P 2 (lb P_spec_ImageOfAddress 0) (spec_ImageOfAddress_L0a a1 c3 c4 ((List.length c4 : Nat) : Int) (0 : Int)) (.exit 0) (spec_ImageOfAddress_L0X2 k1y1 k1y6 k1y23 k1y24 k1y25 k1y26)]) (by kernel_rfl) ⟨h1, h2, h3, h4, h5, trivial⟩ get_spec_ImageOfAddress (by decide)

theorem spec_ImageOfAddress_p3 (a0 : (ByteArray × ByteArray)) (a1 : ByteArray)
    (h1 : SC cfg.P i_spec_prGood [.s (.v (.pr .str .str) a0)] (.s (.v .bool true)) [])
    (h2 : SC cfg.P i_spec_mpBits [.s (.v .str a1)] (.s (.v .bool false)) []) :
    SC cfg.P i_spec_ImageOfAddress [.s (.v (.pr .str .str) a0), .s (.v .str a1)] (.tup [.v .str (⟨#[]⟩ : ByteArray), .v .bool false]) [] :=
  SC_of_run cfgOK (its := [.res (.s (.v .bool true)) [] [] [], .res (.s (.v .bool false)) [] [] []])
    (ps := [SC cfg.P i_spec_prGood [.s (.v (.pr .str .str) a0)] (.s (.v .bool true)) [],
      SC cfg.P i_spec_mpBits [.s (.v .str a1)] (.s (.v .bool false)) []]) (by kernel_rfl) ⟨h1, h2, trivial⟩ get_spec_ImageOfAddress (by decide)

theorem spec_ImageOfAddress_p4 (a0 : (ByteArray × ByteArray)) (a1 : ByteArray)
    (h1 : SC cfg.P i_spec_prGood [.s (.v (.pr .str .str) a0)] (.s (.v .bool false)) []) :
    SC cfg.P i_spec_ImageOfAddress [.s (.v (.pr .str .str) a0), .s (.v .str a1)] (.tup [.v .str (⟨#[]⟩ : ByteArray), .v .bool false]) [] :=
  SC_of_run cfgOK (its := [.res (.s (.v .bool false)) [] [] []])
    (ps := [SC cfg.P i_spec_prGood [.s (.v (.pr .str .str) a0)] (.s (.v .bool false)) []]) (by kernel_rfl) ⟨h1, trivial⟩ get_spec_ImageOfAddress (by decide)

/-! ### impl_ImageOfAddress -/


def impl_ImageOfAddress_L0a (x1 : ByteArray) (x8 : (List ByteArray)) (x30 : (List ByteArray)) (x31 : Int) (x32 : Int) : St := mkSt 59 [(1, .s (.v .str x1)), (8, .s (.v (.sl .str) x8)), (30, .s (.v (.sl .str) x30)), (31, .s (.v (.int .i64) x31)), (32, .s (.v (.int .i64) x32))] []

def impl_ImageOfAddress_L0X1 (y4 : ByteArray) (y5 : Bool) : St := mkSt 59 [(4, .s (.v .str y4)), (5, .s (.v .bool y5))] []

def impl_ImageOfAddress_L0X2 (y1 : ByteArray) (y8 : (List ByteArray)) (y30 : (List ByteArray)) (y31 : Int) (y32 : Int) (y33 : Bool) : St := mkSt 59 [(1, .s (.v .str y1)), (8, .s (.v (.sl .str) y8)), (30, .s (.v (.sl .str) y30)), (31, .s (.v (.int .i64) y31)), (32, .s (.v (.int .i64) y32)), (33, .s (.v .bool y33))] []

theorem impl_ImageOfAddress_L0a_x1 (x1 : ByteArray) (x8 : (List ByteArray)) (x30 : (List ByteArray)) (x31 : Int) (x32 : Int) (dc1a : ByteArray)
    (h1 : x32 < x31)
    (h2 : 0 ≤ x32)
    (h3 : x32 < (List.length x30 : Int))
    (h4 : SC cfg.P i_strings_CutPrefix [.s (.v .str x1), .s (.v .str (List.getD x30 (x32).toNat (⟨#[]⟩ : ByteArray)))] (.tup [.v .str dc1a, .v .bool true]) [])
    (h5 : x32 < (List.length x8 : Int))
    (h6 : ((List.getD x8 (x32).toNat (⟨#[]⟩ : ByteArray))).size + (dc1a).size ≤ 2 ^ 62)
    (h7 : ((((List.getD x8 (x32).toNat (⟨#[]⟩ : ByteArray)) ++ dc1a)).size : Int) > (10 : Int)) :
    LoopSC cfg.P 2 (lb P_impl_ImageOfAddress 0) (impl_ImageOfAddress_L0a x1 x8 x30 x31 x32) (.ret) (impl_ImageOfAddress_L0X1 (⟨#[]⟩ : ByteArray) false) :=
  loop_out cfgOK (f := i_impl_ImageOfAddress) (its := [.bool true, .res (.tup [.v .str dc1a, .v .bool true]) [] [] [], .bool true])
    (ps := [decide (x32 < x31) = true,
      0 ≤ x32,
      x32 < (List.length x30 : Int),
      SC cfg.P i_strings_CutPrefix [.s (.v .str x1), .s (.v .str (List.getD x30 (x32).toNat (⟨#[]⟩ : ByteArray)))] (.tup [.v .str dc1a, .v .bool true]) [],
      0 ≤ x32,
      x32 < (List.length x8 : Int),
      ((List.getD x8 (x32).toNat (⟨#[]⟩ : ByteArray))).size + (dc1a).size ≤ 2 ^ 62,
      decide (((((List.getD x8 (x32).toNat (⟨#[]⟩ : ByteArray)) ++ dc1a)).size : Int) > (10 : Int)) = true]) (by kernel_rfl) ⟨(decide_eq_true h1), h2, h3, h4, h2, h5, h6, (decide_eq_true h7), trivial⟩ (fun h => by cases h)

theorem impl_ImageOfAddress_L0a_x2 (x1 : ByteArray) (x8 : (List ByteArray)) (x30 : (List ByteArray)) (x31 : Int) (x32 : Int) (dc1a : ByteArray)
    (h1 : x32 < x31)
    (h2 : 0 ≤ x32)
    (h3 : x32 < (List.length x30 : Int))
    (h4 : SC cfg.P i_strings_CutPrefix [.s (.v .str x1), .s (.v .str (List.getD x30 (x32).toNat (⟨#[]⟩ : ByteArray)))] (.tup [.v .str dc1a, .v .bool true]) [])
    (h5 : x32 < (List.length x8 : Int))
    (h6 : ((List.getD x8 (x32).toNat (⟨#[]⟩ : ByteArray))).size + (dc1a).size ≤ 2 ^ 62)
    (h7 : ¬ (((((List.getD x8 (x32).toNat (⟨#[]⟩ : ByteArray)) ++ dc1a)).size : Int) > (10 : Int))) :
    LoopSC cfg.P 2 (lb P_impl_ImageOfAddress 0) (impl_ImageOfAddress_L0a x1 x8 x30 x31 x32) (.ret) (impl_ImageOfAddress_L0X1 ((List.getD x8 (x32).toNat (⟨#[]⟩ : ByteArray)) ++ dc1a) true) :=
  loop_out cfgOK (f := i_impl_ImageOfAddress) (its := [.bool true, .res (.tup [.v .str dc1a, .v .bool true]) [] [] [], .bool false])
    (ps := [decide (x32 < x31) = true,
      0 ≤ x32,
      x32 < (List.length x30 : Int),
      SC cfg.P i_strings_CutPrefix [.s (.v .str x1), .s (.v .str (List.getD x30 (x32).toNat (⟨#[]⟩ : ByteArray)))] (.tup [.v .str dc1a, .v .bool true]) [],
      0 ≤ x32,
      x32 < (List.length x8 : Int),
      ((List.getD x8 (x32).toNat (⟨#[]⟩ : ByteArray))).size + (dc1a).size ≤ 2 ^ 62,
      decide (((((List.getD x8 (x32).toNat (⟨#[]⟩ : ByteArray)) ++ dc1a)).size : Int) > (10 : Int)) = false,
      0 ≤ x32,
      x32 < (List.length x8 : Int),
      ((List.getD x8 (x32).toNat (⟨#[]⟩ : ByteArray))).size + (dc1a).size ≤ 2 ^ 62]) (by kernel_rfl) ⟨(decide_eq_true h1), h2, h3, h4, h2, h5, h6, (decide_eq_false h7), h2, h5, h6, trivial⟩ (fun h => by cases h)

theorem impl_ImageOfAddress_L0a_i3 (x1 : ByteArray) (x8 : (List ByteArray)) (x30 : (List ByteArray)) (x31 : Int) (x32 : Int) (dc1a : ByteArray)
    (h1 : x32 < x31)
    (h2 : 0 ≤ x32)
    (h3 : x32 < (List.length x30 : Int))
    (h4 : SC cfg.P i_strings_CutPrefix [.s (.v .str x1), .s (.v .str (List.getD x30 (x32).toNat (⟨#[]⟩ : ByteArray)))] (.tup [.v .str dc1a, .v .bool false]) [])
    {e : AEx} {st : St} (next : LoopSC cfg.P 2 (lb P_impl_ImageOfAddress 0) (impl_ImageOfAddress_L0a x1 x8 x30 x31 (IntKind.wrap .i64 (x32 + (1 : Int)))) e st) :
    LoopSC cfg.P 2 (lb P_impl_ImageOfAddress 0) (impl_ImageOfAddress_L0a x1 x8 x30 x31 x32) e st :=
  loop_iter cfgOK (f := i_impl_ImageOfAddress) (its := [.bool true, .res (.tup [.v .str dc1a, .v .bool false]) [] [] []])
    (ps := [decide (x32 < x31) = true,
      0 ≤ x32,
      x32 < (List.length x30 : Int),
      SC cfg.P i_strings_CutPrefix [.s (.v .str x1), .s (.v .str (List.getD x30 (x32).toNat (⟨#[]⟩ : ByteArray)))] (.tup [.v .str dc1a, .v .bool false]) []]) (st1 := impl_ImageOfAddress_L0a x1 x8 x30 x31 (IntKind.wrap .i64 (x32 + (1 : Int)))) (by kernel_rfl) ⟨(decide_eq_true h1), h2, h3, h4, trivial⟩ next

theorem impl_ImageOfAddress_L0a_x4 (x1 : ByteArray) (x8 : (List ByteArray)) (x30 : (List ByteArray)) (x31 : Int) (x32 : Int)
    (h1 : ¬ (x32 < x31)) :
    LoopSC cfg.P 2 (lb P_impl_ImageOfAddress 0) (impl_ImageOfAddress_L0a x1 x8 x30 x31 x32) (.exit 0) (impl_ImageOfAddress_L0X2 x1 x8 x30 x31 x32 false) :=
  loop_out cfgOK (f := i_impl_ImageOfAddress) (its := [.bool false])
    (ps := [decide (x32 < x31) = false]) (by kernel_rfl) ⟨(decide_eq_false h1), trivial⟩ (fun h => by cases h)

theorem impl_ImageOfAddress_p1 (a0 : (ByteArray × ByteArray)) (a1 : ByteArray) (c1a : (Tr × Tr)) (c3 : (List ByteArray)) (c4 : (List ByteArray)) (k1y4 : ByteArray) (k1y5 : Bool)
    (h1 : SC cfg.P i_impl_pairOf [.s (.v (.pr .str .str) a0)] (.tup [.v (.pr .tree .tree) c1a, .v .bool true]) [])
    (h2 : SC cfg.P i_impl_isAddress [.s (.v .str a1)] (.s (.v .bool true)) [])
    (h3 : SC cfg.P i_impl_node_addresses [.s (.v .tree c1a.2), .s (.v .str (⟨#[]⟩ : ByteArray))] (.s (.v (.sl .str) c3)) [])
    (h4 : SC cfg.P i_impl_node_addresses [.s (.v .tree c1a.1), .s (.v .str (⟨#[]⟩ : ByteArray))] (.s (.v (.sl .str) c4)) [])
    (h5 : LoopSC cfg.P 2 (lb P_impl_ImageOfAddress 0) (impl_ImageOfAddress_L0a a1 c3 c4 ((List.length c4 : Nat) : Int) (0 : Int)) (.ret) (impl_ImageOfAddress_L0X1 k1y4 k1y5)) :
    SC cfg.P i_impl_ImageOfAddress [.s (.v (.pr .str .str) a0), .s (.v .str a1)] (.tup [.v .str k1y4, .v .bool k1y5]) [] :=
  SC_of_run cfgOK (its := [.res (.tup [.v (.pr .tree .tree) c1a, .v .bool true]) [] [] [], .res (.s (.v .bool true)) [] [] [], .res (.s (.v (.sl .str) c3)) [] [] [], .res (.s (.v (.sl .str) c4)) [] [] [], .loop (fun _ => (.ret, impl_ImageOfAddress_L0X1 k1y4 k1y5))])
    (ps := [SC cfg.P i_impl_pairOf [.s (.v (.pr .str .str) a0)] (.tup [.v (.pr .tree .tree) c1a, .v .bool true]) [],
      SC cfg.P i_impl_isAddress [.s (.v .str a1)] (.s (.v .bool true)) [],
      SC cfg.P i_impl_node_addresses [.s (.v .tree c1a.2), .s (.v .str (⟨#[]⟩ : ByteArray))] (.s (.v (.sl .str) c3)) [],
      SC cfg.P i_impl_node_addresses [.s (.v .tree c1a.1), .s (.v .str (⟨#[]⟩ : ByteArray))] (.s (.v (.sl .str) c4)) [],
      LoopSC cfg.P 2 (lb P_impl_ImageOfAddress 0) (impl_ImageOfAddress_L0a a1 c3 c4 ((List.length c4 : Nat) : Int) (0 : Int)) (.ret) (impl_ImageOfAddress_L0X1 k1y4 k1y5)]) (by kernel_rfl) ⟨h1, h2, h3, h4, h5, trivial⟩ get_impl_ImageOfAddress (by decide)

theorem impl_ImageOfAddress_p2 (a0 : (ByteArray × ByteArray)) (a1 : ByteArray) (c1a : (Tr × Tr)) (c3 : (List ByteArray)) (c4 : (List ByteArray)) (k1y1 : ByteArray) (k1y8 : (List ByteArray)) (k1y30 : (List ByteArray)) (k1y31 : Int) (k1y32 : Int) (k1y33 : Bool)
    (h1 : SC cfg.P i_impl_pairOf [.s (.v (.pr .str .str) a0)] (.tup [.v (.pr .tree .tree) c1a, .v .bool true]) [])
    (h2 : SC cfg.P i_impl_isAddress [.s (.v .str a1)] (.s (.v .bool true)) [])
    (h3 : SC cfg.P i_impl_node_addresses [.s (.v .tree c1a.2), .s (.v .str (⟨#[]⟩ : ByteArray))] (.s (.v (.sl .str) c3)) [])
    (h4 : SC cfg.P i_impl_node_addresses [.s (.v .tree c1a.1), .s (.v .str (⟨#[]⟩ : ByteArray))] (.s (.v (.sl .str) c4)) [])
    (h5 : LoopSC cfg.P 2 (lb P_impl_ImageOfAddress 0) (impl_ImageOfAddress_L0a a1 c3 c4 ((List.length c4 : Nat) : Int) (0 : Int)) (.exit 0) (impl_ImageOfAddress_L0X2 k1y1 k1y8 k1y30 k1y31 k1y32 k1y33)) :
    SC cfg.P i_impl_ImageOfAddress [.s (.v (.pr .str .str) a0), .s (.v .str a1)] (.tup [.v .str (⟨#[]⟩ : ByteArray), .v .bool false]) [] :=
  SC_of_run cfgOK (its := [.res (.tup [.v (.pr .tree .tree) c1a, .v .bool true]) [] [] [], .res (.s (.v .bool true)) [] [] [], .res (.s (.v (.sl .str) c3)) [] [] [], .res (.s (.v (.sl .str) c4)) [] [] [], .loop (fun _ => (.exit 0, impl_ImageOfAddress_L0X2 k1y1 k1y8 k1y30 k1y31 k1y32 k1y33))])
    (ps := [SC cfg.P i_impl_pairOf [.s (.v (.pr .str .str) a0)] (.tup [.v (.pr .tree .tree) c1a, .v .bool true]) [],
      SC cfg.P i_impl_isAddress [.s (.v .str a1)] (.s (.v .bool true)) [],
      SC cfg.P i_impl_node_addresses [.s (.v .tree c1a.2), .s (.v .str (⟨#[]⟩ : ByteArray))] (.s (.v (.sl .str) c3)) [],
      SC cfg.P i_impl_node_addresses [.s (.v .tree c1a.1), .s (.v .str (⟨#[]⟩ : ByteArray))] (.s (.v (.sl .str) c4)) [],
      LoopSC cfg.P 2 (lb P_impl_ImageOfAddress 0) (impl_ImageOfAddress_L0a a1 c3 c4 ((List.length c4 : Nat) : Int) (0 : Int)) (.exit 0) (impl_ImageOfAddress_L0X2 k1y1 k1y8 k1y30 k1y31 k1y32 k1y33)]) (by kernel_rfl) ⟨h1, h2, h3, h4, h5, trivial⟩ get_impl_ImageOfAddress (by decide)

theorem impl_ImageOfAddress_p3 (a0 : (ByteArray × ByteArray)) (a1 : ByteArray) (c1a : (Tr × Tr))
    (h1 : SC cfg.P i_impl_pairOf [.s (.v (.pr .str .str) a0)] (.tup [.v (.pr .tree .tree) c1a, .v .bool true]) [])
    (h2 : SC cfg.P i_impl_isAddress [.s (.v .str a1)] (.s (.v .bool false)) []) :
    SC cfg.P i_impl_ImageOfAddress [.s (.v (.pr .str .str) a0), .s (.v .str a1)] (.tup [.v .str (⟨#[]⟩ : ByteArray), .v .bool false]) [] :=
  SC_of_run cfgOK (its := [.res (.tup [.v (.pr .tree .tree) c1a, .v .bool true]) [] [] [], .res (.s (.v .bool false)) [] [] []])
    (ps := [SC cfg.P i_impl_pairOf [.s (.v (.pr .str .str) a0)] (.tup [.v (.pr .tree .tree) c1a, .v .bool true]) [],
      SC cfg.P i_impl_isAddress [.s (.v .str a1)] (.s (.v .bool false)) []]) (by kernel_rfl) ⟨h1, h2, trivial⟩ get_impl_ImageOfAddress (by decide)

theorem impl_ImageOfAddress_p4 (a0 : (ByteArray × ByteArray)) (a1 : ByteArray) (c1a : (Tr × Tr))
    (h1 : SC cfg.P i_impl_pairOf [.s (.v (.pr .str .str) a0)] (.tup [.v (.pr .tree .tree) c1a, .v .bool false]) []) :
    SC cfg.P i_impl_ImageOfAddress [.s (.v (.pr .str .str) a0), .s (.v .str a1)] (.tup [.v .str (⟨#[]⟩ : ByteArray), .v .bool false]) [] :=
  SC_of_run cfgOK (its := [.res (.tup [.v (.pr .tree .tree) c1a, .v .bool false]) [] [] []])
    (ps := [SC cfg.P i_impl_pairOf [.s (.v (.pr .str .str) a0)] (.tup [.v (.pr .tree .tree) c1a, .v .bool false]) []]) (by kernel_rfl) ⟨h1, trivial⟩ get_impl_ImageOfAddress (by decide)

/-! ### spec_mpBits -/


def spec_mpBits_L0a (x0 : ByteArray) (x3 : Int) : St := mkSt 23 [(0, .s (.v .str x0)), (3, .s (.v (.int .i64) x3))] []

def spec_mpBits_L0X1 (y2 : Bool) : St := mkSt 23 [(2, .s (.v .bool y2))] []

def spec_mpBits_L0X2 (y0 : ByteArray) (y3 : Int) (y10 : Bool) : St := mkSt 23 [(0, .s (.v .str y0)), (3, .s (.v (.int .i64) y3)), (10, .s (.v .bool y10))] []

theorem spec_mpBits_L0a_x1 (x0 : ByteArray) (x3 : Int)
    (h1 : x3 < ((x0).size : Int))
    (h2 : 0 ≤ x3)
    (h3 : (bt x0 x3) ≠ (48 : Int))
    (h4 : (bt x0 x3) ≠ (49 : Int)) :
    LoopSC cfg.P 1 (lb P_spec_mpBits 0) (spec_mpBits_L0a x0 x3) (.ret) (spec_mpBits_L0X1 false) :=
  loop_out cfgOK (f := i_spec_mpBits) (its := [.bool true, .bool true, .bool true])
    (ps := [decide (x3 < ((x0).size : Int)) = true,
      0 ≤ x3,
      x3 < ((x0).size : Int),
      ((bt x0 x3) != (48 : Int)) = true,
      0 ≤ x3,
      x3 < ((x0).size : Int),
      ((bt x0 x3) != (49 : Int)) = true]) (by kernel_rfl) ⟨(decide_eq_true h1), h2, h1, (bne_t h3), h2, h1, (bne_t h4), trivial⟩ (fun h => by cases h)

theorem spec_mpBits_L0a_i2 (x0 : ByteArray) (x3 : Int)
    (h1 : x3 < ((x0).size : Int))
    (h2 : 0 ≤ x3)
    (h3 : (bt x0 x3) ≠ (48 : Int))
    (h4 : (bt x0 x3) = (49 : Int))
    {e : AEx} {st : St} (next : LoopSC cfg.P 1 (lb P_spec_mpBits 0) (spec_mpBits_L0a x0 (IntKind.wrap .i64 (x3 + (1 : Int)))) e st) :
    LoopSC cfg.P 1 (lb P_spec_mpBits 0) (spec_mpBits_L0a x0 x3) e st :=
  loop_iter cfgOK (f := i_spec_mpBits) (its := [.bool true, .bool true, .bool false])
    (ps := [decide (x3 < ((x0).size : Int)) = true,
      0 ≤ x3,
      x3 < ((x0).size : Int),
      ((bt x0 x3) != (48 : Int)) = true,
      0 ≤ x3,
      x3 < ((x0).size : Int),
      ((bt x0 x3) != (49 : Int)) = false]) (st1 := spec_mpBits_L0a x0 (IntKind.wrap .i64 (x3 + (1 : Int)))) (by kernel_rfl) ⟨(decide_eq_true h1), h2, h1, (bne_t h3), h2, h1, (bne_f h4), trivial⟩ next

theorem spec_mpBits_L0a_i3 (x0 : ByteArray) (x3 : Int)
    (h1 : x3 < ((x0).size : Int))
    (h2 : 0 ≤ x3)
    (h3 : (bt x0 x3) = (48 : Int))
    {e : AEx} {st : St} (next : LoopSC cfg.P 1 (lb P_spec_mpBits 0) (spec_mpBits_L0a x0 (IntKind.wrap .i64 (x3 + (1 : Int)))) e st) :
    LoopSC cfg.P 1 (lb P_spec_mpBits 0) (spec_mpBits_L0a x0 x3) e st :=
  loop_iter cfgOK (f := i_spec_mpBits) (its := [.bool true, .bool false])
    (ps := [decide (x3 < ((x0).size : Int)) = true,
      0 ≤ x3,
      x3 < ((x0).size : Int),
      ((bt x0 x3) != (48 : Int)) = false]) (st1 := spec_mpBits_L0a x0 (IntKind.wrap .i64 (x3 + (1 : Int)))) (by kernel_rfl) ⟨(decide_eq_true h1), h2, h1, (bne_f h3), trivial⟩ next

theorem spec_mpBits_L0a_x4 (x0 : ByteArray) (x3 : Int)
    (h1 : ¬ (x3 < ((x0).size : Int))) :
    LoopSC cfg.P 1 (lb P_spec_mpBits 0) (spec_mpBits_L0a x0 x3) (.exit 0) (spec_mpBits_L0X2 x0 x3 false) :=
  loop_out cfgOK (f := i_spec_mpBits) (its := [.bool false])
    (ps := [decide (x3 < ((x0).size : Int)) = false]) (by kernel_rfl) ⟨(decide_eq_false h1), trivial⟩ (fun h => by cases h)

theorem spec_mpBits_p1 (a0 : ByteArray)
    (h1 : ((a0).size : Int) > (10 : Int)) :
    SC cfg.P i_spec_mpBits [.s (.v .str a0)] (.s (.v .bool false)) [] :=
  SC_of_run cfgOK (its := [.bool true])
    (ps := [decide (((a0).size : Int) > (10 : Int)) = true]) (by kernel_rfl) ⟨(decide_eq_true h1), trivial⟩ get_spec_mpBits (by decide)

theorem spec_mpBits_p2 (a0 : ByteArray) (k1y2 : Bool)
    (h1 : ¬ (((a0).size : Int) > (10 : Int)))
    (h2 : LoopSC cfg.P 1 (lb P_spec_mpBits 0) (spec_mpBits_L0a a0 (0 : Int)) (.ret) (spec_mpBits_L0X1 k1y2)) :
    SC cfg.P i_spec_mpBits [.s (.v .str a0)] (.s (.v .bool k1y2)) [] :=
  SC_of_run cfgOK (its := [.bool false, .loop (fun _ => (.ret, spec_mpBits_L0X1 k1y2))])
    (ps := [decide (((a0).size : Int) > (10 : Int)) = false,
      LoopSC cfg.P 1 (lb P_spec_mpBits 0) (spec_mpBits_L0a a0 (0 : Int)) (.ret) (spec_mpBits_L0X1 k1y2)]) (by kernel_rfl) ⟨(decide_eq_false h1), h2, trivial⟩ get_spec_mpBits (by decide)

theorem spec_mpBits_p3 (a0 : ByteArray) (k1y0 : ByteArray) (k1y3 : Int) (k1y10 : Bool)
    (h1 : ¬ (((a0).size : Int) > (10 : Int)))
    (h2 : LoopSC cfg.P 1 (lb P_spec_mpBits 0) (spec_mpBits_L0a a0 (0 : Int)) (.exit 0) (spec_mpBits_L0X2 k1y0 k1y3 k1y10)) :
    SC cfg.P i_spec_mpBits [.s (.v .str a0)] (.s (.v .bool true)) [] :=
  SC_of_run cfgOK (its := [.bool false, .loop (fun _ => (.exit 0, spec_mpBits_L0X2 k1y0 k1y3 k1y10))])
    (ps := [decide (((a0).size : Int) > (10 : Int)) = false,
      LoopSC cfg.P 1 (lb P_spec_mpBits 0) (spec_mpBits_L0a a0 (0 : Int)) (.exit 0) (spec_mpBits_L0X2 k1y0 k1y3 k1y10)]) (by kernel_rfl) ⟨(decide_eq_false h1), h2, trivial⟩ get_spec_mpBits (by decide)

/-! ### impl_isAddress -/


theorem impl_isAddress_p1 (a0 : ByteArray) (c1 : ByteArray)
    (h1 : ((a0).size : Int) ≤ (10 : Int))
    (h2 : SC cfg.P i_strings_Trim [.s (.v .str a0), .s (.v .str (⟨#[48, 49]⟩ : ByteArray))] (.s (.v .str c1)) [])
    (h3 : c1 = (⟨#[]⟩ : ByteArray)) :
    SC cfg.P i_impl_isAddress [.s (.v .str a0)] (.s (.v .bool true)) [] :=
  SC_of_run cfgOK (its := [.bool true, .res (.s (.v .str c1)) [] [] [], .bool true])
    (ps := [decide (((a0).size : Int) ≤ (10 : Int)) = true,
      SC cfg.P i_strings_Trim [.s (.v .str a0), .s (.v .str (⟨#[48, 49]⟩ : ByteArray))] (.s (.v .str c1)) [],
      ((c1).toList == ((⟨#[]⟩ : ByteArray)).toList) = true]) (by kernel_rfl) ⟨(decide_eq_true h1), h2, (seq_t h3), trivial⟩ get_impl_isAddress (by decide)

theorem impl_isAddress_p2 (a0 : ByteArray) (c1 : ByteArray)
    (h1 : ((a0).size : Int) ≤ (10 : Int))
    (h2 : SC cfg.P i_strings_Trim [.s (.v .str a0), .s (.v .str (⟨#[48, 49]⟩ : ByteArray))] (.s (.v .str c1)) [])
    (h3 : c1 ≠ (⟨#[]⟩ : ByteArray)) :
    SC cfg.P i_impl_isAddress [.s (.v .str a0)] (.s (.v .bool false)) [] :=
  SC_of_run cfgOK (its := [.bool true, .res (.s (.v .str c1)) [] [] [], .bool false])
    (ps := [decide (((a0).size : Int) ≤ (10 : Int)) = true,
      SC cfg.P i_strings_Trim [.s (.v .str a0), .s (.v .str (⟨#[48, 49]⟩ : ByteArray))] (.s (.v .str c1)) [],
      ((c1).toList == ((⟨#[]⟩ : ByteArray)).toList) = false]) (by kernel_rfl) ⟨(decide_eq_true h1), h2, (seq_f h3), trivial⟩ get_impl_isAddress (by decide)

theorem impl_isAddress_p3 (a0 : ByteArray)
    (h1 : ¬ (((a0).size : Int) ≤ (10 : Int))) :
    SC cfg.P i_impl_isAddress [.s (.v .str a0)] (.s (.v .bool false)) [] :=
  SC_of_run cfgOK (its := [.bool false])
    (ps := [decide (((a0).size : Int) ≤ (10 : Int)) = false]) (by kernel_rfl) ⟨(decide_eq_false h1), trivial⟩ get_impl_isAddress (by decide)

end Go.AI
