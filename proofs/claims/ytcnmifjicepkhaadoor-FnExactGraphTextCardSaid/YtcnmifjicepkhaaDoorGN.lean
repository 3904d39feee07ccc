/- A part of the road: what it proves stands in its last texts. -/
import Derived.Test.YtcnmifjicepkhaaDoorSIds
import Derived.Test.YtcnmifjicepkhaaDoorProg
set_option autoImplicit false
set_option maxRecDepth 100000
set_option linter.unusedVariables false
namespace Go.AI
open Go.Proofs

/-! ### laws_FnExactGraphText -/


theorem laws_FnExactGraphText_p1 (a0 : (ByteArray × ByteArray)) (c1 : Int)
    (h1 : SC cfg.P i_laws_szPair [.s (.v (.pr .str .str) a0), .s (.v (.int .i64) (1048576 : Int))] (.s (.v (.int .i64) c1)) [])
    (h2 : c1 < (0 : Int)) :
    SC cfg.P i_laws_FnExactGraphText [.s (.v (.pr .str .str) a0)] (.s (.v .bool true)) [] :=
  SC_of_run cfgOK (its := [.res (.s (.v (.int .i64) c1)) [] [] [], .bool true])
    (ps := [SC cfg.P i_laws_szPair [.s (.v (.pr .str .str) a0), .s (.v (.int .i64) (1048576 : Int))] (.s (.v (.int .i64) c1)) [],
      decide (c1 < (0 : Int)) = true]) (by kernel_rfl) ⟨h1, (decide_eq_true h2), trivial⟩ get_laws_FnExactGraphText (by decide)

theorem laws_FnExactGraphText_p2 (a0 : (ByteArray × ByteArray)) (c1 : Int) (c2 : (ByteArray × ByteArray)) (c3a : ByteArray) (c3b : Bool) (c4 : (ByteArray × ByteArray)) (c5a : ByteArray) (c5b : Bool)
    (h1 : SC cfg.P i_laws_szPair [.s (.v (.pr .str .str) a0), .s (.v (.int .i64) (1048576 : Int))] (.s (.v (.int .i64) c1)) [])
    (h2 : ¬ (c1 < (0 : Int)))
    (h3 : SC cfg.P i_laws_toPair [.s (.v (.pr .str .str) a0)] (.s (.v (.pr .str .str) c2)) [])
    (h4 : SC cfg.P i_spec_GraphText [.s (.v (.pr .str .str) c2)] (.tup [.v .str c3a, .v .bool c3b]) [])
    (h5 : SC cfg.P i_laws_toPair [.s (.v (.pr .str .str) a0)] (.s (.v (.pr .str .str) c4)) [])
    (h6 : SC cfg.P i_impl_GraphText [.s (.v (.pr .str .str) c4)] (.tup [.v .str c5a, .v .bool c5b]) [])
    (h7 : c5a = c3a)
    (h8 : (!(c5b == c3b)) = false) :
    SC cfg.P i_laws_FnExactGraphText [.s (.v (.pr .str .str) a0)] (.s (.v .bool true)) [] :=
  SC_of_run cfgOK (its := [.res (.s (.v (.int .i64) c1)) [] [] [], .bool false, .res (.s (.v (.pr .str .str) c2)) [] [] [], .res (.tup [.v .str c3a, .v .bool c3b]) [] [] [], .res (.s (.v (.pr .str .str) c4)) [] [] [], .res (.tup [.v .str c5a, .v .bool c5b]) [] [] [], .bool false, .bool false])
    (ps := [SC cfg.P i_laws_szPair [.s (.v (.pr .str .str) a0), .s (.v (.int .i64) (1048576 : Int))] (.s (.v (.int .i64) c1)) [],
      decide (c1 < (0 : Int)) = false,
      SC cfg.P i_laws_toPair [.s (.v (.pr .str .str) a0)] (.s (.v (.pr .str .str) c2)) [],
      SC cfg.P i_spec_GraphText [.s (.v (.pr .str .str) c2)] (.tup [.v .str c3a, .v .bool c3b]) [],
      SC cfg.P i_laws_toPair [.s (.v (.pr .str .str) a0)] (.s (.v (.pr .str .str) c4)) [],
      SC cfg.P i_impl_GraphText [.s (.v (.pr .str .str) c4)] (.tup [.v .str c5a, .v .bool c5b]) [],
      (!((c5a).toList == (c3a).toList)) = false,
      (!(c5b == c3b)) = false]) (by kernel_rfl) ⟨h1, (decide_eq_false h2), h3, h4, h5, h6, (nseq_f h7), h8, trivial⟩ get_laws_FnExactGraphText (by decide)

/-! ### spec_GraphText -/


def spec_GraphText_L0a (x6 : ByteArray) (x25 : Int) (x26 : Int) (xo20 : (List (Int × Int))) (xo24 : (List (Int × Int))) : St := mkSt 48 [(5, .s (.osl 20 0)), (6, .s (.v .str x6)), (24, .s (.osl 24 0)), (25, .s (.v (.int .i64) x25)), (26, .s (.v (.int .i64) x26))] [(20, .row t_impl_Fraction (.pr (.int .i64) (.int .i64)) xo20 0 false), (24, .row t_impl_Fraction (.pr (.int .i64) (.int .i64)) xo24 0 false)]

def spec_GraphText_L0X1 (y6 : ByteArray) (y25 : Int) (y26 : Int) (y27 : Bool) (yo20 : (List (Int × Int))) (yo24 : (List (Int × Int))) : St := mkSt 48 [(5, .s (.osl 20 0)), (6, .s (.v .str y6)), (24, .s (.osl 24 0)), (25, .s (.v (.int .i64) y25)), (26, .s (.v (.int .i64) y26)), (27, .s (.v .bool y27))] [(20, .row t_impl_Fraction (.pr (.int .i64) (.int .i64)) yo20 0 false), (24, .row t_impl_Fraction (.pr (.int .i64) (.int .i64)) yo24 0 false)]

theorem spec_GraphText_L0a_i1 (x6 : ByteArray) (x25 : Int) (x26 : Int) (xo20 : (List (Int × Int))) (xo24 : (List (Int × Int))) (dc1 : ByteArray) (dc2 : ByteArray)
    (h1 : x26 < x25)
    (h2 : 0 ≤ x26)
    (h3 : x26 < (List.length xo24 : Int))
    (h4 : (x26).toNat < List.length xo24)
    (h5 : x26 > (0 : Int))
    (h6 : (x6).size + ((⟨#[44]⟩ : ByteArray)).size ≤ 2 ^ 62)
    (h7 : SC cfg.P i_spec_mpText [.s (.v (.pr (.int .i64) (.int .i64)) (List.getD xo24 (x26).toNat ((0 : Int), (0 : Int))))] (.s (.v .str dc1)) [])
    (h8 : (dc1).size + ((⟨#[62]⟩ : ByteArray)).size ≤ 2 ^ 62)
    (h9 : x26 < (List.length xo20 : Int))
    (h10 : (x26).toNat < List.length xo20)
    (h11 : SC cfg.P i_spec_mpText [.s (.v (.pr (.int .i64) (.int .i64)) (List.getD xo20 (x26).toNat ((0 : Int), (0 : Int))))] (.s (.v .str dc2)) [])
    (h12 : ((dc1 ++ (⟨#[62]⟩ : ByteArray))).size + (dc2).size ≤ 2 ^ 62)
    (h13 : ((x6 ++ (⟨#[44]⟩ : ByteArray))).size + (((dc1 ++ (⟨#[62]⟩ : ByteArray)) ++ dc2)).size ≤ 2 ^ 62)
    {e : AEx} {st : St} (next : LoopSC cfg.P 1 (lb P_spec_GraphText 0) (spec_GraphText_L0a ((x6 ++ (⟨#[44]⟩ : ByteArray)) ++ ((dc1 ++ (⟨#[62]⟩ : ByteArray)) ++ dc2)) x25 (IntKind.wrap .i64 (x26 + (1 : Int))) xo20 xo24) e st) :
    LoopSC cfg.P 1 (lb P_spec_GraphText 0) (spec_GraphText_L0a x6 x25 x26 xo20 xo24) e st :=
  loop_iter cfgOK (f := i_spec_GraphText) (its := [.bool true, .bool true, .res (.s (.v .str dc1)) [] [] [], .res (.s (.v .str dc2)) [] [] []])
    (ps := [decide (x26 < x25) = true,
      0 ≤ x26,
      x26 < (List.length xo24 : Int),
      (x26).toNat < List.length xo24,
      decide (x26 > (0 : Int)) = true,
      (x6).size + ((⟨#[44]⟩ : ByteArray)).size ≤ 2 ^ 62,
      SC cfg.P i_spec_mpText [.s (.v (.pr (.int .i64) (.int .i64)) (List.getD xo24 (x26).toNat ((0 : Int), (0 : Int))))] (.s (.v .str dc1)) [],
      (dc1).size + ((⟨#[62]⟩ : ByteArray)).size ≤ 2 ^ 62,
      0 ≤ x26,
      x26 < (List.length xo20 : Int),
      (x26).toNat < List.length xo20,
      SC cfg.P i_spec_mpText [.s (.v (.pr (.int .i64) (.int .i64)) (List.getD xo20 (x26).toNat ((0 : Int), (0 : Int))))] (.s (.v .str dc2)) [],
      ((dc1 ++ (⟨#[62]⟩ : ByteArray))).size + (dc2).size ≤ 2 ^ 62,
      ((x6 ++ (⟨#[44]⟩ : ByteArray))).size + (((dc1 ++ (⟨#[62]⟩ : ByteArray)) ++ dc2)).size ≤ 2 ^ 62]) (st1 := spec_GraphText_L0a ((x6 ++ (⟨#[44]⟩ : ByteArray)) ++ ((dc1 ++ (⟨#[62]⟩ : ByteArray)) ++ dc2)) x25 (IntKind.wrap .i64 (x26 + (1 : Int))) xo20 xo24) (by kernel_rfl) ⟨(decide_eq_true h1), h2, h3, h4, (decide_eq_true h5), h6, h7, h8, h2, h9, h10, h11, h12, h13, trivial⟩ next

theorem spec_GraphText_L0a_i2 (x6 : ByteArray) (x25 : Int) (x26 : Int) (xo20 : (List (Int × Int))) (xo24 : (List (Int × Int))) (dc1 : ByteArray) (dc2 : ByteArray)
    (h1 : x26 < x25)
    (h2 : 0 ≤ x26)
    (h3 : x26 < (List.length xo24 : Int))
    (h4 : (x26).toNat < List.length xo24)
    (h5 : ¬ (x26 > (0 : Int)))
    (h6 : SC cfg.P i_spec_mpText [.s (.v (.pr (.int .i64) (.int .i64)) (List.getD xo24 (x26).toNat ((0 : Int), (0 : Int))))] (.s (.v .str dc1)) [])
    (h7 : (dc1).size + ((⟨#[62]⟩ : ByteArray)).size ≤ 2 ^ 62)
    (h8 : x26 < (List.length xo20 : Int))
    (h9 : (x26).toNat < List.length xo20)
    (h10 : SC cfg.P i_spec_mpText [.s (.v (.pr (.int .i64) (.int .i64)) (List.getD xo20 (x26).toNat ((0 : Int), (0 : Int))))] (.s (.v .str dc2)) [])
    (h11 : ((dc1 ++ (⟨#[62]⟩ : ByteArray))).size + (dc2).size ≤ 2 ^ 62)
    (h12 : (x6).size + (((dc1 ++ (⟨#[62]⟩ : ByteArray)) ++ dc2)).size ≤ 2 ^ 62)
    {e : AEx} {st : St} (next : LoopSC cfg.P 1 (lb P_spec_GraphText 0) (spec_GraphText_L0a (x6 ++ ((dc1 ++ (⟨#[62]⟩ : ByteArray)) ++ dc2)) x25 (IntKind.wrap .i64 (x26 + (1 : Int))) xo20 xo24) e st) :
    LoopSC cfg.P 1 (lb P_spec_GraphText 0) (spec_GraphText_L0a x6 x25 x26 xo20 xo24) e st :=
  loop_iter cfgOK (f := i_spec_GraphText) (its := [.bool true, .bool false, .res (.s (.v .str dc1)) [] [] [], .res (.s (.v .str dc2)) [] [] []])
    (ps := [decide (x26 < x25) = true,
      0 ≤ x26,
      x26 < (List.length xo24 : Int),
      (x26).toNat < List.length xo24,
      decide (x26 > (0 : Int)) = false,
      SC cfg.P i_spec_mpText [.s (.v (.pr (.int .i64) (.int .i64)) (List.getD xo24 (x26).toNat ((0 : Int), (0 : Int))))] (.s (.v .str dc1)) [],
      (dc1).size + ((⟨#[62]⟩ : ByteArray)).size ≤ 2 ^ 62,
      0 ≤ x26,
      x26 < (List.length xo20 : Int),
      (x26).toNat < List.length xo20,
      SC cfg.P i_spec_mpText [.s (.v (.pr (.int .i64) (.int .i64)) (List.getD xo20 (x26).toNat ((0 : Int), (0 : Int))))] (.s (.v .str dc2)) [],
      ((dc1 ++ (⟨#[62]⟩ : ByteArray))).size + (dc2).size ≤ 2 ^ 62,
      (x6).size + (((dc1 ++ (⟨#[62]⟩ : ByteArray)) ++ dc2)).size ≤ 2 ^ 62]) (st1 := spec_GraphText_L0a (x6 ++ ((dc1 ++ (⟨#[62]⟩ : ByteArray)) ++ dc2)) x25 (IntKind.wrap .i64 (x26 + (1 : Int))) xo20 xo24) (by kernel_rfl) ⟨(decide_eq_true h1), h2, h3, h4, (decide_eq_false h5), h6, h7, h2, h8, h9, h10, h11, h12, trivial⟩ next

theorem spec_GraphText_L0a_x3 (x6 : ByteArray) (x25 : Int) (x26 : Int) (xo20 : (List (Int × Int))) (xo24 : (List (Int × Int)))
    (h1 : ¬ (x26 < x25)) :
    LoopSC cfg.P 1 (lb P_spec_GraphText 0) (spec_GraphText_L0a x6 x25 x26 xo20 xo24) (.exit 0) (spec_GraphText_L0X1 x6 x25 x26 false xo20 xo24) :=
  loop_out cfgOK (f := i_spec_GraphText) (its := [.bool false])
    (ps := [decide (x26 < x25) = false]) (by kernel_rfl) ⟨(decide_eq_false h1), trivial⟩ (fun h => by cases h)

theorem spec_GraphText_p1 (a0 : (ByteArray × ByteArray)) (c2 : (List Int))
    (h1 : SC cfg.P i_spec_prGood [.s (.v (.pr .str .str) a0)] (.s (.v .bool true)) [])
    (h2 : SC cfg.P i_spec_mpBreaks [.s (.v (.pr .str .str) a0)] (.s (.own t_int (.int .i64) c2)) [])
    (h3 : ((List.length c2 : Nat) : Int) = (0 : Int)) :
    SC cfg.P i_spec_GraphText [.s (.v (.pr .str .str) a0)] (.tup [.v .str (⟨#[45]⟩ : ByteArray), .v .bool true]) [] :=
  SC_of_run cfgOK (its := [.res (.s (.v .bool true)) [] [] [], .res (.s (.own t_int (.int .i64) c2)) [] [] [13], .bool true])
    (ps := [SC cfg.P i_spec_prGood [.s (.v (.pr .str .str) a0)] (.s (.v .bool true)) [],
      SC cfg.P i_spec_mpBreaks [.s (.v (.pr .str .str) a0)] (.s (.own t_int (.int .i64) c2)) [],
      (((List.length c2 : Nat) : Int) == (0 : Int)) = true]) (by kernel_rfl) ⟨h1, h2, (beq_t h3), trivial⟩ get_spec_GraphText (by decide)

theorem spec_GraphText_p2 (a0 : (ByteArray × ByteArray)) (c2 : (List Int)) (c3 : (List (Int × Int))) (c4 : (List (Int × Int))) (k1y6 : ByteArray) (k1y25 : Int) (k1y26 : Int) (k1y27 : Bool) (k1yo20 : (List (Int × Int))) (k1yo24 : (List (Int × Int)))
    (h1 : SC cfg.P i_spec_prGood [.s (.v (.pr .str .str) a0)] (.s (.v .bool true)) [])
    (h2 : SC cfg.P i_spec_mpBreaks [.s (.v (.pr .str .str) a0)] (.s (.own t_int (.int .i64) c2)) [])
    (h3 : ((List.length c2 : Nat) : Int) ≠ (0 : Int))
    (h4 : SC cfg.P i_spec_mpAt [.s (.v .str a0.2), .s (.v (.sl (.int .i64)) c2)] (.s (.own t_impl_Fraction (.pr (.int .i64) (.int .i64)) c3)) [])
    (h5 : SC cfg.P i_spec_mpAt [.s (.v .str a0.1), .s (.v (.sl (.int .i64)) c2)] (.s (.own t_impl_Fraction (.pr (.int .i64) (.int .i64)) c4)) [])
    (h6 : LoopSC cfg.P 1 (lb P_spec_GraphText 0) (spec_GraphText_L0a (⟨#[]⟩ : ByteArray) ((List.length c4 : Nat) : Int) (0 : Int) c3 c4) (.exit 0) (spec_GraphText_L0X1 k1y6 k1y25 k1y26 k1y27 k1yo20 k1yo24)) :
    SC cfg.P i_spec_GraphText [.s (.v (.pr .str .str) a0)] (.tup [.v .str k1y6, .v .bool true]) [] :=
  SC_of_run cfgOK (its := [.res (.s (.v .bool true)) [] [] [], .res (.s (.own t_int (.int .i64) c2)) [] [] [13], .bool false, .res (.s (.own t_impl_Fraction (.pr (.int .i64) (.int .i64)) c3)) [] [] [20], .res (.s (.own t_impl_Fraction (.pr (.int .i64) (.int .i64)) c4)) [] [] [24], .loop (fun _ => (.exit 0, spec_GraphText_L0X1 k1y6 k1y25 k1y26 k1y27 k1yo20 k1yo24))])
    (ps := [SC cfg.P i_spec_prGood [.s (.v (.pr .str .str) a0)] (.s (.v .bool true)) [],
      SC cfg.P i_spec_mpBreaks [.s (.v (.pr .str .str) a0)] (.s (.own t_int (.int .i64) c2)) [],
      (((List.length c2 : Nat) : Int) == (0 : Int)) = false,
      SC cfg.P i_spec_mpAt [.s (.v .str a0.2), .s (.v (.sl (.int .i64)) c2)] (.s (.own t_impl_Fraction (.pr (.int .i64) (.int .i64)) c3)) [],
      SC cfg.P i_spec_mpAt [.s (.v .str a0.1), .s (.v (.sl (.int .i64)) c2)] (.s (.own t_impl_Fraction (.pr (.int .i64) (.int .i64)) c4)) [],
      LoopSC cfg.P 1 (lb P_spec_GraphText 0) (spec_GraphText_L0a (⟨#[]⟩ : ByteArray) ((List.length c4 : Nat) : Int) (0 : Int) c3 c4) (.exit 0) (spec_GraphText_L0X1 k1y6 k1y25 k1y26 k1y27 k1yo20 k1yo24)]) (by kernel_rfl) ⟨h1, h2, (beq_f h3), h4, h5, h6, trivial⟩ get_spec_GraphText (by decide)

theorem spec_GraphText_p3 (a0 : (ByteArray × ByteArray))
    (h1 : SC cfg.P i_spec_prGood [.s (.v (.pr .str .str) a0)] (.s (.v .bool false)) []) :
    SC cfg.P i_spec_GraphText [.s (.v (.pr .str .str) a0)] (.tup [.v .str (⟨#[]⟩ : ByteArray), .v .bool false]) [] :=
  SC_of_run cfgOK (its := [.res (.s (.v .bool false)) [] [] []])
    (ps := [SC cfg.P i_spec_prGood [.s (.v (.pr .str .str) a0)] (.s (.v .bool false)) []]) (by kernel_rfl) ⟨h1, trivial⟩ get_spec_GraphText (by decide)

/-! ### impl_GraphText -/


def impl_GraphText_L0a (x22 : Int) (x23 : Int) (xo6 : (List ByteArray)) (xo21 : (List (Int × (Int × (Int × Int))))) : St := mkSt 54 [(6, .s (.osl 6 0)), (21, .s (.osl 21 0)), (22, .s (.v (.int .i64) x22)), (23, .s (.v (.int .i64) x23))] [(6, .row t_string .str xo6 0 false), (21, .row t_impl_piece (.pr (.int .i64) (.pr (.int .i64) (.pr (.int .i64) (.int .i64)))) xo21 0 false)]

def impl_GraphText_L0X1 (y22 : Int) (y23 : Int) (y24 : Bool) (yo6 : (List ByteArray)) (yo21 : (List (Int × (Int × (Int × Int))))) : St := mkSt 54 [(6, .s (.osl 6 0)), (21, .s (.osl 21 0)), (22, .s (.v (.int .i64) y22)), (23, .s (.v (.int .i64) y23)), (24, .s (.v .bool y24))] [(6, .row t_string .str yo6 0 false), (21, .row t_impl_piece (.pr (.int .i64) (.pr (.int .i64) (.pr (.int .i64) (.int .i64)))) yo21 0 false)]

theorem impl_GraphText_L0a_i1 (x22 : Int) (x23 : Int) (xo6 : (List ByteArray)) (xo21 : (List (Int × (Int × (Int × Int))))) (dc1a : (Int × Int)) (dc1b : Bool) (dc2a : (Int × Int)) (dc2b : Bool) (dc3 : ByteArray) (dc4 : ByteArray)
    (h1 : x23 < x22)
    (h2 : 0 ≤ x23)
    (h3 : x23 < (List.length xo21 : Int))
    (h4 : (x23).toNat < List.length xo21)
    (h5 : SC cfg.P i_impl_fractionAt [.s (.v (.int .i64) (List.getD xo21 (x23).toNat ((0 : Int), ((0 : Int), ((0 : Int), (0 : Int))))).1)] (.tup [.v (.pr (.int .i64) (.int .i64)) dc1a, .v .bool dc1b]) [])
    (h6 : SC cfg.P i_impl_fractionAt [.s (.v (.int .i64) (List.getD xo21 (x23).toNat ((0 : Int), ((0 : Int), ((0 : Int), (0 : Int))))).2.1)] (.tup [.v (.pr (.int .i64) (.int .i64)) dc2a, .v .bool dc2b]) [])
    (h7 : SC cfg.P i_impl_Fraction_text [.s (.v (.pr (.int .i64) (.int .i64)) dc1a)] (.s (.v .str dc3)) [])
    (h8 : (dc3).size + ((⟨#[62]⟩ : ByteArray)).size ≤ 2 ^ 62)
    (h9 : SC cfg.P i_impl_Fraction_text [.s (.v (.pr (.int .i64) (.int .i64)) dc2a)] (.s (.v .str dc4)) [])
    (h10 : ((dc3 ++ (⟨#[62]⟩ : ByteArray))).size + (dc4).size ≤ 2 ^ 62)
    (h11 : sizeOK (List.length xo6 + List.length ([((dc3 ++ (⟨#[62]⟩ : ByteArray)) ++ dc4)] : List ByteArray)))
    {e : AEx} {st : St} (next : LoopSC cfg.P 1 (lb P_impl_GraphText 0) (impl_GraphText_L0a x22 (IntKind.wrap .i64 (x23 + (1 : Int))) (xo6 ++ ([((dc3 ++ (⟨#[62]⟩ : ByteArray)) ++ dc4)] : List ByteArray)) xo21) e st) :
    LoopSC cfg.P 1 (lb P_impl_GraphText 0) (impl_GraphText_L0a x22 x23 xo6 xo21) e st :=
  loop_iter cfgOK (f := i_impl_GraphText) (its := [.bool true, .res (.tup [.v (.pr (.int .i64) (.int .i64)) dc1a, .v .bool dc1b]) [] [] [], .res (.tup [.v (.pr (.int .i64) (.int .i64)) dc2a, .v .bool dc2b]) [] [] [], .res (.s (.v .str dc3)) [] [] [], .res (.s (.v .str dc4)) [] [] []])
    (ps := [decide (x23 < x22) = true,
      0 ≤ x23,
      x23 < (List.length xo21 : Int),
      (x23).toNat < List.length xo21,
      SC cfg.P i_impl_fractionAt [.s (.v (.int .i64) (List.getD xo21 (x23).toNat ((0 : Int), ((0 : Int), ((0 : Int), (0 : Int))))).1)] (.tup [.v (.pr (.int .i64) (.int .i64)) dc1a, .v .bool dc1b]) [],
      SC cfg.P i_impl_fractionAt [.s (.v (.int .i64) (List.getD xo21 (x23).toNat ((0 : Int), ((0 : Int), ((0 : Int), (0 : Int))))).2.1)] (.tup [.v (.pr (.int .i64) (.int .i64)) dc2a, .v .bool dc2b]) [],
      SC cfg.P i_impl_Fraction_text [.s (.v (.pr (.int .i64) (.int .i64)) dc1a)] (.s (.v .str dc3)) [],
      (dc3).size + ((⟨#[62]⟩ : ByteArray)).size ≤ 2 ^ 62,
      SC cfg.P i_impl_Fraction_text [.s (.v (.pr (.int .i64) (.int .i64)) dc2a)] (.s (.v .str dc4)) [],
      ((dc3 ++ (⟨#[62]⟩ : ByteArray))).size + (dc4).size ≤ 2 ^ 62,
      sizeOK (List.length xo6 + List.length ([((dc3 ++ (⟨#[62]⟩ : ByteArray)) ++ dc4)] : List ByteArray))]) (st1 := impl_GraphText_L0a x22 (IntKind.wrap .i64 (x23 + (1 : Int))) (xo6 ++ ([((dc3 ++ (⟨#[62]⟩ : ByteArray)) ++ dc4)] : List ByteArray)) xo21) (by kernel_rfl) ⟨(decide_eq_true h1), h2, h3, h4, h5, h6, h7, h8, h9, h10, h11, trivial⟩ next

theorem impl_GraphText_L0a_x2 (x22 : Int) (x23 : Int) (xo6 : (List ByteArray)) (xo21 : (List (Int × (Int × (Int × Int)))))
    (h1 : ¬ (x23 < x22)) :
    LoopSC cfg.P 1 (lb P_impl_GraphText 0) (impl_GraphText_L0a x22 x23 xo6 xo21) (.exit 0) (impl_GraphText_L0X1 x22 x23 false xo6 xo21) :=
  loop_out cfgOK (f := i_impl_GraphText) (its := [.bool false])
    (ps := [decide (x23 < x22) = false]) (by kernel_rfl) ⟨(decide_eq_false h1), trivial⟩ (fun h => by cases h)

theorem impl_GraphText_p1 (a0 : (ByteArray × ByteArray)) (c1a : (Tr × Tr)) (c2 : (List (Int × (Int × (Int × Int))))) (k1y22 : Int) (k1y23 : Int) (k1y24 : Bool) (k1yo6 : (List ByteArray)) (k1yo21 : (List (Int × (Int × (Int × Int)))))
    (h1 : SC cfg.P i_impl_pairOf [.s (.v (.pr .str .str) a0)] (.tup [.v (.pr .tree .tree) c1a, .v .bool true]) [])
    (h2 : SC cfg.P i_impl_pair_breaks [.s (.v (.pr .tree .tree) c1a)] (.s (.own t_impl_piece (.pr (.int .i64) (.pr (.int .i64) (.pr (.int .i64) (.int .i64)))) c2)) [])
    (h3 : LoopSC cfg.P 1 (lb P_impl_GraphText 0) (impl_GraphText_L0a ((List.length c2 : Nat) : Int) (0 : Int) ([] : List ByteArray) c2) (.exit 0) (impl_GraphText_L0X1 k1y22 k1y23 k1y24 k1yo6 k1yo21))
    (h4 : ((List.length k1yo6 : Nat) : Int) = (0 : Int)) :
    SC cfg.P i_impl_GraphText [.s (.v (.pr .str .str) a0)] (.tup [.v .str (⟨#[45]⟩ : ByteArray), .v .bool true]) [] :=
  SC_of_run cfgOK (its := [.res (.tup [.v (.pr .tree .tree) c1a, .v .bool true]) [] [] [], .res (.s (.own t_impl_piece (.pr (.int .i64) (.pr (.int .i64) (.pr (.int .i64) (.int .i64)))) c2)) [] [] [21], .loop (fun _ => (.exit 0, impl_GraphText_L0X1 k1y22 k1y23 k1y24 k1yo6 k1yo21)), .bool true])
    (ps := [SC cfg.P i_impl_pairOf [.s (.v (.pr .str .str) a0)] (.tup [.v (.pr .tree .tree) c1a, .v .bool true]) [],
      SC cfg.P i_impl_pair_breaks [.s (.v (.pr .tree .tree) c1a)] (.s (.own t_impl_piece (.pr (.int .i64) (.pr (.int .i64) (.pr (.int .i64) (.int .i64)))) c2)) [],
      LoopSC cfg.P 1 (lb P_impl_GraphText 0) (impl_GraphText_L0a ((List.length c2 : Nat) : Int) (0 : Int) ([] : List ByteArray) c2) (.exit 0) (impl_GraphText_L0X1 k1y22 k1y23 k1y24 k1yo6 k1yo21),
      (((List.length k1yo6 : Nat) : Int) == (0 : Int)) = true]) (by kernel_rfl) ⟨h1, h2, h3, (beq_t h4), trivial⟩ get_impl_GraphText (by decide)

theorem impl_GraphText_p2 (a0 : (ByteArray × ByteArray)) (c1a : (Tr × Tr)) (c2 : (List (Int × (Int × (Int × Int))))) (k1y22 : Int) (k1y23 : Int) (k1y24 : Bool) (k1yo6 : (List ByteArray)) (k1yo21 : (List (Int × (Int × (Int × Int))))) (c3 : ByteArray)
    (h1 : SC cfg.P i_impl_pairOf [.s (.v (.pr .str .str) a0)] (.tup [.v (.pr .tree .tree) c1a, .v .bool true]) [])
    (h2 : SC cfg.P i_impl_pair_breaks [.s (.v (.pr .tree .tree) c1a)] (.s (.own t_impl_piece (.pr (.int .i64) (.pr (.int .i64) (.pr (.int .i64) (.int .i64)))) c2)) [])
    (h3 : LoopSC cfg.P 1 (lb P_impl_GraphText 0) (impl_GraphText_L0a ((List.length c2 : Nat) : Int) (0 : Int) ([] : List ByteArray) c2) (.exit 0) (impl_GraphText_L0X1 k1y22 k1y23 k1y24 k1yo6 k1yo21))
    (h4 : ((List.length k1yo6 : Nat) : Int) ≠ (0 : Int))
    (h5 : SC cfg.P i_strings_Join [.s (.v (.sl .str) k1yo6), .s (.v .str (⟨#[44]⟩ : ByteArray))] (.s (.v .str c3)) []) :
    SC cfg.P i_impl_GraphText [.s (.v (.pr .str .str) a0)] (.tup [.v .str c3, .v .bool true]) [] :=
  SC_of_run cfgOK (its := [.res (.tup [.v (.pr .tree .tree) c1a, .v .bool true]) [] [] [], .res (.s (.own t_impl_piece (.pr (.int .i64) (.pr (.int .i64) (.pr (.int .i64) (.int .i64)))) c2)) [] [] [21], .loop (fun _ => (.exit 0, impl_GraphText_L0X1 k1y22 k1y23 k1y24 k1yo6 k1yo21)), .bool false, .res (.s (.v .str c3)) [] [] []])
    (ps := [SC cfg.P i_impl_pairOf [.s (.v (.pr .str .str) a0)] (.tup [.v (.pr .tree .tree) c1a, .v .bool true]) [],
      SC cfg.P i_impl_pair_breaks [.s (.v (.pr .tree .tree) c1a)] (.s (.own t_impl_piece (.pr (.int .i64) (.pr (.int .i64) (.pr (.int .i64) (.int .i64)))) c2)) [],
      LoopSC cfg.P 1 (lb P_impl_GraphText 0) (impl_GraphText_L0a ((List.length c2 : Nat) : Int) (0 : Int) ([] : List ByteArray) c2) (.exit 0) (impl_GraphText_L0X1 k1y22 k1y23 k1y24 k1yo6 k1yo21),
      (((List.length k1yo6 : Nat) : Int) == (0 : Int)) = false,
      SC cfg.P i_strings_Join [.s (.v (.sl .str) k1yo6), .s (.v .str (⟨#[44]⟩ : ByteArray))] (.s (.v .str c3)) []]) (by kernel_rfl) ⟨h1, h2, h3, (beq_f h4), h5, trivial⟩ get_impl_GraphText (by decide)

theorem impl_GraphText_p3 (a0 : (ByteArray × ByteArray)) (c1a : (Tr × Tr))
    (h1 : SC cfg.P i_impl_pairOf [.s (.v (.pr .str .str) a0)] (.tup [.v (.pr .tree .tree) c1a, .v .bool false]) []) :
    SC cfg.P i_impl_GraphText [.s (.v (.pr .str .str) a0)] (.tup [.v .str (⟨#[]⟩ : ByteArray), .v .bool false]) [] :=
  SC_of_run cfgOK (its := [.res (.tup [.v (.pr .tree .tree) c1a, .v .bool false]) [] [] []])
    (ps := [SC cfg.P i_impl_pairOf [.s (.v (.pr .str .str) a0)] (.tup [.v (.pr .tree .tree) c1a, .v .bool false]) []]) (by kernel_rfl) ⟨h1, trivial⟩ get_impl_GraphText (by decide)

/-! ### spec_mpText -/


theorem spec_mpText_p1 (a0 : (Int × Int)) (c1 : ByteArray) (c2 : ByteArray)
    (h1 : SC cfg.P i_spec_l1Num [.s (.v (.int .i64) a0.1)] (.s (.v .str c1)) [])
    (h2 : (c1).size + ((⟨#[47]⟩ : ByteArray)).size ≤ 2 ^ 62)
    (h3 : SC cfg.P i_spec_l1Num [.s (.v (.int .i64) a0.2)] (.s (.v .str c2)) [])
    (h4 : ((c1 ++ (⟨#[47]⟩ : ByteArray))).size + (c2).size ≤ 2 ^ 62) :
    SC cfg.P i_spec_mpText [.s (.v (.pr (.int .i64) (.int .i64)) a0)] (.s (.v .str ((c1 ++ (⟨#[47]⟩ : ByteArray)) ++ c2))) [] :=
  SC_of_run cfgOK (its := [.res (.s (.v .str c1)) [] [] [], .res (.s (.v .str c2)) [] [] []])
    (ps := [SC cfg.P i_spec_l1Num [.s (.v (.int .i64) a0.1)] (.s (.v .str c1)) [],
      (c1).size + ((⟨#[47]⟩ : ByteArray)).size ≤ 2 ^ 62,
      SC cfg.P i_spec_l1Num [.s (.v (.int .i64) a0.2)] (.s (.v .str c2)) [],
      ((c1 ++ (⟨#[47]⟩ : ByteArray))).size + (c2).size ≤ 2 ^ 62]) (by kernel_rfl) ⟨h1, h2, h3, h4, trivial⟩ get_spec_mpText (by decide)

/-! ### impl_Fraction_text -/


theorem impl_Fraction_text_p1 (a0 : (Int × Int)) (c1 : ByteArray) (c2 : ByteArray)
    (h1 : SC cfg.P i_strconv_Itoa [.s (.v (.int .i64) a0.1)] (.s (.v .str c1)) [])
    (h2 : (c1).size + ((⟨#[47]⟩ : ByteArray)).size ≤ 2 ^ 62)
    (h3 : SC cfg.P i_strconv_Itoa [.s (.v (.int .i64) a0.2)] (.s (.v .str c2)) [])
    (h4 : ((c1 ++ (⟨#[47]⟩ : ByteArray))).size + (c2).size ≤ 2 ^ 62) :
    SC cfg.P i_impl_Fraction_text [.s (.v (.pr (.int .i64) (.int .i64)) a0)] (.s (.v .str ((c1 ++ (⟨#[47]⟩ : ByteArray)) ++ c2))) [] :=
  SC_of_run cfgOK (its := [.res (.s (.v .str c1)) [] [] [], .res (.s (.v .str c2)) [] [] []])
    (ps := [SC cfg.P i_strconv_Itoa [.s (.v (.int .i64) a0.1)] (.s (.v .str c1)) [],
      (c1).size + ((⟨#[47]⟩ : ByteArray)).size ≤ 2 ^ 62,
      SC cfg.P i_strconv_Itoa [.s (.v (.int .i64) a0.2)] (.s (.v .str c2)) [],
      ((c1 ++ (⟨#[47]⟩ : ByteArray))).size + (c2).size ≤ 2 ^ 62]) (by kernel_rfl) ⟨h1, h2, h3, h4, trivial⟩ get_impl_Fraction_text (by decide)

/-! ### spec_l1Num -/


theorem spec_l1Num_p1 (a0 : Int)
    (h1 : a0 < (10 : Int)) :
    SC cfg.P i_spec_l1Num [.s (.v (.int .i64) a0)] (.s (.v .str (strOf ([(IntKind.wrap .u8 (IntKind.wrap .i64 ((48 : Int) + a0)))] : List Int)))) [] :=
  SC_of_run cfgOK (its := [.bool true])
    (ps := [decide (a0 < (10 : Int)) = true]) (by kernel_rfl) ⟨(decide_eq_true h1), trivial⟩ get_spec_l1Num (by decide)

theorem spec_l1Num_p2 (a0 : Int) (c1 : ByteArray)
    (h1 : ¬ (a0 < (10 : Int)))
    (h2 : (10 : Int) ≠ 0)
    (h3 : SC cfg.P i_spec_l1Num [.s (.v (.int .i64) (IntKind.wrap .i64 (Int.tdiv a0 (10 : Int))))] (.s (.v .str c1)) [])
    (h4 : (c1).size + ((strOf ([(IntKind.wrap .u8 (IntKind.wrap .i64 ((48 : Int) + (Int.tmod a0 (10 : Int)))))] : List Int))).size ≤ 2 ^ 62) :
    SC cfg.P i_spec_l1Num [.s (.v (.int .i64) a0)] (.s (.v .str (c1 ++ (strOf ([(IntKind.wrap .u8 (IntKind.wrap .i64 ((48 : Int) + (Int.tmod a0 (10 : Int)))))] : List Int))))) [] :=
  SC_of_run cfgOK (its := [.bool false, .res (.s (.v .str c1)) [] [] []])
    (ps := [decide (a0 < (10 : Int)) = false,
      (10 : Int) ≠ 0,
      SC cfg.P i_spec_l1Num [.s (.v (.int .i64) (IntKind.wrap .i64 (Int.tdiv a0 (10 : Int))))] (.s (.v .str c1)) [],
      (10 : Int) ≠ 0,
      (c1).size + ((strOf ([(IntKind.wrap .u8 (IntKind.wrap .i64 ((48 : Int) + (Int.tmod a0 (10 : Int)))))] : List Int))).size ≤ 2 ^ 62]) (by kernel_rfl) ⟨(decide_eq_false h1), h2, h3, h2, h4, trivial⟩ get_spec_l1Num (by decide)

end Go.AI
