/- A part of the road: what it proves stands in its last texts. -/
import Derived.Test.YtnoajkfmokcekaaSIds
import Derived.Test.YtnoajkfmokcekaaProg
set_option autoImplicit false
set_option maxRecDepth 100000
set_option linter.unusedVariables false
namespace Go.AI
open Go.Proofs

/-! ### laws_FnExactForestText -/


theorem laws_FnExactForestText_p1 (a0 : (List ByteArray)) (c1 : Int)
    (h1 : SC cfg.P i_laws_szStringS [.s (.v (.sl .str) a0), .s (.v (.int .i64) (1048576 : Int))] (.s (.v (.int .i64) c1)) [])
    (h2 : c1 < (0 : Int)) :
    SC cfg.P i_laws_FnExactForestText [.s (.v (.sl .str) a0)] (.s (.v .bool true)) [] :=
  SC_of_run cfgOK (its := [.res (.s (.v (.int .i64) c1)) [] [] [], .bool true])
    (ps := [SC cfg.P i_laws_szStringS [.s (.v (.sl .str) a0), .s (.v (.int .i64) (1048576 : Int))] (.s (.v (.int .i64) c1)) [],
      decide (c1 < (0 : Int)) = true]) (by kernel_rfl) ⟨h1, (decide_eq_true h2), trivial⟩ get_laws_FnExactForestText (by decide)

theorem laws_FnExactForestText_p2 (a0 : (List ByteArray)) (c1 : Int) (c2 : (List ByteArray)) (c3a : ByteArray) (c3b : Bool) (c4 : (List ByteArray)) (c5a : ByteArray) (c5b : Bool) (c6 : (List ByteArray))
    (h1 : SC cfg.P i_laws_szStringS [.s (.v (.sl .str) a0), .s (.v (.int .i64) (1048576 : Int))] (.s (.v (.int .i64) c1)) [])
    (h2 : ¬ (c1 < (0 : Int)))
    (h3 : SC cfg.P i_laws_toStringS [.s (.v (.sl .str) a0)] (.s (.own t_string .str c2)) [])
    (h4 : SC cfg.P i_spec_ForestText [.s (.v (.sl .str) c2)] (.tup [.v .str c3a, .v .bool c3b]) [])
    (h5 : SC cfg.P i_laws_toStringS [.s (.v (.sl .str) a0)] (.s (.own t_string .str c4)) [])
    (h6 : SC cfg.P i_impl_ForestText [.s (.v (.sl .str) c4)] (.tup [.v .str c5a, .v .bool c5b]) [])
    (h7 : c5a = c3a)
    (h8 : (!(c5b == c3b)) = false)
    (h9 : SC cfg.P i_laws_toStringS [.s (.v (.sl .str) a0)] (.s (.own t_string .str c6)) [])
    (h10 : SC cfg.P i_laws_eqStringS [.s (.v (.sl .str) c4), .s (.v (.sl .str) c6)] (.s (.v .bool true)) []) :
    SC cfg.P i_laws_FnExactForestText [.s (.v (.sl .str) a0)] (.s (.v .bool true)) [] :=
  SC_of_run cfgOK (its := [.res (.s (.v (.int .i64) c1)) [] [] [], .bool false, .res (.s (.own t_string .str c2)) [] [] [16], .res (.tup [.v .str c3a, .v .bool c3b]) [] [] [], .res (.s (.own t_string .str c4)) [] [] [21], .res (.tup [.v .str c5a, .v .bool c5b]) [] [] [], .bool false, .bool false, .res (.s (.own t_string .str c6)) [] [] [37], .res (.s (.v .bool true)) [] [] []])
    (ps := [SC cfg.P i_laws_szStringS [.s (.v (.sl .str) a0), .s (.v (.int .i64) (1048576 : Int))] (.s (.v (.int .i64) c1)) [],
      decide (c1 < (0 : Int)) = false,
      SC cfg.P i_laws_toStringS [.s (.v (.sl .str) a0)] (.s (.own t_string .str c2)) [],
      SC cfg.P i_spec_ForestText [.s (.v (.sl .str) c2)] (.tup [.v .str c3a, .v .bool c3b]) [],
      SC cfg.P i_laws_toStringS [.s (.v (.sl .str) a0)] (.s (.own t_string .str c4)) [],
      SC cfg.P i_impl_ForestText [.s (.v (.sl .str) c4)] (.tup [.v .str c5a, .v .bool c5b]) [],
      (!((c5a).toList == (c3a).toList)) = false,
      (!(c5b == c3b)) = false,
      SC cfg.P i_laws_toStringS [.s (.v (.sl .str) a0)] (.s (.own t_string .str c6)) [],
      SC cfg.P i_laws_eqStringS [.s (.v (.sl .str) c4), .s (.v (.sl .str) c6)] (.s (.v .bool true)) []]) (by kernel_rfl) ⟨h1, (decide_eq_false h2), h3, h4, h5, h6, (nseq_f h7), h8, h9, h10, trivial⟩ get_laws_FnExactForestText (by decide)

/-! ### spec_ForestText -/


theorem spec_ForestText_p1 (a0 : (List ByteArray)) (c2 : ByteArray)
    (h1 : SC cfg.P i_spec_foGood [.s (.v (.sl .str) a0)] (.s (.v .bool true)) [])
    (h2 : SC cfg.P i_spec_foText [.s (.v (.sl .str) a0)] (.s (.v .str c2)) []) :
    SC cfg.P i_spec_ForestText [.s (.v (.sl .str) a0)] (.tup [.v .str c2, .v .bool true]) [] :=
  SC_of_run cfgOK (its := [.res (.s (.v .bool true)) [] [] [], .res (.s (.v .str c2)) [] [] []])
    (ps := [SC cfg.P i_spec_foGood [.s (.v (.sl .str) a0)] (.s (.v .bool true)) [],
      SC cfg.P i_spec_foText [.s (.v (.sl .str) a0)] (.s (.v .str c2)) []]) (by kernel_rfl) ⟨h1, h2, trivial⟩ get_spec_ForestText (by decide)

theorem spec_ForestText_p2 (a0 : (List ByteArray))
    (h1 : SC cfg.P i_spec_foGood [.s (.v (.sl .str) a0)] (.s (.v .bool false)) []) :
    SC cfg.P i_spec_ForestText [.s (.v (.sl .str) a0)] (.tup [.v .str (⟨#[]⟩ : ByteArray), .v .bool false]) [] :=
  SC_of_run cfgOK (its := [.res (.s (.v .bool false)) [] [] []])
    (ps := [SC cfg.P i_spec_foGood [.s (.v (.sl .str) a0)] (.s (.v .bool false)) []]) (by kernel_rfl) ⟨h1, trivial⟩ get_spec_ForestText (by decide)

/-! ### impl_ForestText -/


theorem impl_ForestText_p1 (a0 : (List ByteArray)) (c2 : ByteArray)
    (h1 : SC cfg.P i_impl_IsForest [.s (.v (.sl .str) a0)] (.s (.v .bool true)) [])
    (h2 : SC cfg.P i_impl_forestText [.s (.v (.sl .str) a0)] (.s (.v .str c2)) []) :
    SC cfg.P i_impl_ForestText [.s (.v (.sl .str) a0)] (.tup [.v .str c2, .v .bool true]) [] :=
  SC_of_run cfgOK (its := [.res (.s (.v .bool true)) [] [] [], .res (.s (.v .str c2)) [] [] []])
    (ps := [SC cfg.P i_impl_IsForest [.s (.v (.sl .str) a0)] (.s (.v .bool true)) [],
      SC cfg.P i_impl_forestText [.s (.v (.sl .str) a0)] (.s (.v .str c2)) []]) (by kernel_rfl) ⟨h1, h2, trivial⟩ get_impl_ForestText (by decide)

theorem impl_ForestText_p2 (a0 : (List ByteArray))
    (h1 : SC cfg.P i_impl_IsForest [.s (.v (.sl .str) a0)] (.s (.v .bool false)) []) :
    SC cfg.P i_impl_ForestText [.s (.v (.sl .str) a0)] (.tup [.v .str (⟨#[]⟩ : ByteArray), .v .bool false]) [] :=
  SC_of_run cfgOK (its := [.res (.s (.v .bool false)) [] [] []])
    (ps := [SC cfg.P i_impl_IsForest [.s (.v (.sl .str) a0)] (.s (.v .bool false)) []]) (by kernel_rfl) ⟨h1, trivial⟩ get_impl_ForestText (by decide)

/-! ### spec_foText -/


def spec_foText_L0a (x3 : ByteArray) (x6 : (List ByteArray)) (x7 : Int) (x8 : Int) : St := mkSt 24 [(3, .s (.v .str x3)), (6, .s (.v (.sl .str) x6)), (7, .s (.v (.int .i64) x7)), (8, .s (.v (.int .i64) x8))] []

def spec_foText_L0X1 (y3 : ByteArray) (y6 : (List ByteArray)) (y7 : Int) (y8 : Int) (y9 : Bool) : St := mkSt 24 [(3, .s (.v .str y3)), (6, .s (.v (.sl .str) y6)), (7, .s (.v (.int .i64) y7)), (8, .s (.v (.int .i64) y8)), (9, .s (.v .bool y9))] []

theorem spec_foText_L0a_i1 (x3 : ByteArray) (x6 : (List ByteArray)) (x7 : Int) (x8 : Int)
    (h1 : x8 < x7)
    (h2 : 0 ≤ x8)
    (h3 : x8 < (List.length x6 : Int))
    (h4 : x8 > (0 : Int))
    (h5 : (x3).size + ((⟨#[32]⟩ : ByteArray)).size ≤ 2 ^ 62)
    (h6 : ((x3 ++ (⟨#[32]⟩ : ByteArray))).size + ((List.getD x6 (x8).toNat (⟨#[]⟩ : ByteArray))).size ≤ 2 ^ 62)
    {e : AEx} {st : St} (next : LoopSC cfg.P 1 (lb P_spec_foText 0) (spec_foText_L0a ((x3 ++ (⟨#[32]⟩ : ByteArray)) ++ (List.getD x6 (x8).toNat (⟨#[]⟩ : ByteArray))) x6 x7 (IntKind.wrap .i64 (x8 + (1 : Int)))) e st) :
    LoopSC cfg.P 1 (lb P_spec_foText 0) (spec_foText_L0a x3 x6 x7 x8) e st :=
  loop_iter cfgOK (f := i_spec_foText) (its := [.bool true, .bool true])
    (ps := [decide (x8 < x7) = true,
      0 ≤ x8,
      x8 < (List.length x6 : Int),
      decide (x8 > (0 : Int)) = true,
      (x3).size + ((⟨#[32]⟩ : ByteArray)).size ≤ 2 ^ 62,
      ((x3 ++ (⟨#[32]⟩ : ByteArray))).size + ((List.getD x6 (x8).toNat (⟨#[]⟩ : ByteArray))).size ≤ 2 ^ 62]) (st1 := spec_foText_L0a ((x3 ++ (⟨#[32]⟩ : ByteArray)) ++ (List.getD x6 (x8).toNat (⟨#[]⟩ : ByteArray))) x6 x7 (IntKind.wrap .i64 (x8 + (1 : Int)))) (by kernel_rfl) ⟨(decide_eq_true h1), h2, h3, (decide_eq_true h4), h5, h6, trivial⟩ next

theorem spec_foText_L0a_i2 (x3 : ByteArray) (x6 : (List ByteArray)) (x7 : Int) (x8 : Int)
    (h1 : x8 < x7)
    (h2 : 0 ≤ x8)
    (h3 : x8 < (List.length x6 : Int))
    (h4 : ¬ (x8 > (0 : Int)))
    (h5 : (x3).size + ((List.getD x6 (x8).toNat (⟨#[]⟩ : ByteArray))).size ≤ 2 ^ 62)
    {e : AEx} {st : St} (next : LoopSC cfg.P 1 (lb P_spec_foText 0) (spec_foText_L0a (x3 ++ (List.getD x6 (x8).toNat (⟨#[]⟩ : ByteArray))) x6 x7 (IntKind.wrap .i64 (x8 + (1 : Int)))) e st) :
    LoopSC cfg.P 1 (lb P_spec_foText 0) (spec_foText_L0a x3 x6 x7 x8) e st :=
  loop_iter cfgOK (f := i_spec_foText) (its := [.bool true, .bool false])
    (ps := [decide (x8 < x7) = true,
      0 ≤ x8,
      x8 < (List.length x6 : Int),
      decide (x8 > (0 : Int)) = false,
      (x3).size + ((List.getD x6 (x8).toNat (⟨#[]⟩ : ByteArray))).size ≤ 2 ^ 62]) (st1 := spec_foText_L0a (x3 ++ (List.getD x6 (x8).toNat (⟨#[]⟩ : ByteArray))) x6 x7 (IntKind.wrap .i64 (x8 + (1 : Int)))) (by kernel_rfl) ⟨(decide_eq_true h1), h2, h3, (decide_eq_false h4), h5, trivial⟩ next

theorem spec_foText_L0a_x3 (x3 : ByteArray) (x6 : (List ByteArray)) (x7 : Int) (x8 : Int)
    (h1 : ¬ (x8 < x7)) :
    LoopSC cfg.P 1 (lb P_spec_foText 0) (spec_foText_L0a x3 x6 x7 x8) (.exit 0) (spec_foText_L0X1 x3 x6 x7 x8 false) :=
  loop_out cfgOK (f := i_spec_foText) (its := [.bool false])
    (ps := [decide (x8 < x7) = false]) (by kernel_rfl) ⟨(decide_eq_false h1), trivial⟩ (fun h => by cases h)

theorem spec_foText_p1 (a0 : (List ByteArray)) (k1y3 : ByteArray) (k1y6 : (List ByteArray)) (k1y7 : Int) (k1y8 : Int) (k1y9 : Bool)
    (h1 : LoopSC cfg.P 1 (lb P_spec_foText 0) (spec_foText_L0a (⟨#[]⟩ : ByteArray) a0 ((List.length a0 : Nat) : Int) (0 : Int)) (.exit 0) (spec_foText_L0X1 k1y3 k1y6 k1y7 k1y8 k1y9))
    (h2 : k1y3 = (⟨#[]⟩ : ByteArray)) :
    SC cfg.P i_spec_foText [.s (.v (.sl .str) a0)] (.s (.v .str (⟨#[45]⟩ : ByteArray))) [] :=
  SC_of_run cfgOK (its := [.loop (fun _ => (.exit 0, spec_foText_L0X1 k1y3 k1y6 k1y7 k1y8 k1y9)), .bool true])
    (ps := [LoopSC cfg.P 1 (lb P_spec_foText 0) (spec_foText_L0a (⟨#[]⟩ : ByteArray) a0 ((List.length a0 : Nat) : Int) (0 : Int)) (.exit 0) (spec_foText_L0X1 k1y3 k1y6 k1y7 k1y8 k1y9),
      ((k1y3).toList == ((⟨#[]⟩ : ByteArray)).toList) = true]) (by kernel_rfl) ⟨h1, (seq_t h2), trivial⟩ get_spec_foText (by decide)

theorem spec_foText_p2 (a0 : (List ByteArray)) (k1y3 : ByteArray) (k1y6 : (List ByteArray)) (k1y7 : Int) (k1y8 : Int) (k1y9 : Bool)
    (h1 : LoopSC cfg.P 1 (lb P_spec_foText 0) (spec_foText_L0a (⟨#[]⟩ : ByteArray) a0 ((List.length a0 : Nat) : Int) (0 : Int)) (.exit 0) (spec_foText_L0X1 k1y3 k1y6 k1y7 k1y8 k1y9))
    (h2 : k1y3 ≠ (⟨#[]⟩ : ByteArray)) :
    SC cfg.P i_spec_foText [.s (.v (.sl .str) a0)] (.s (.v .str k1y3)) [] :=
  SC_of_run cfgOK (its := [.loop (fun _ => (.exit 0, spec_foText_L0X1 k1y3 k1y6 k1y7 k1y8 k1y9)), .bool false])
    (ps := [LoopSC cfg.P 1 (lb P_spec_foText 0) (spec_foText_L0a (⟨#[]⟩ : ByteArray) a0 ((List.length a0 : Nat) : Int) (0 : Int)) (.exit 0) (spec_foText_L0X1 k1y3 k1y6 k1y7 k1y8 k1y9),
      ((k1y3).toList == ((⟨#[]⟩ : ByteArray)).toList) = false]) (by kernel_rfl) ⟨h1, (seq_f h2), trivial⟩ get_spec_foText (by decide)

/-! ### impl_forestText -/


theorem impl_forestText_p1 (a0 : (List ByteArray))
    (h1 : ((List.length a0 : Nat) : Int) = (0 : Int)) :
    SC cfg.P i_impl_forestText [.s (.v (.sl .str) a0)] (.s (.v .str (⟨#[45]⟩ : ByteArray))) [] :=
  SC_of_run cfgOK (its := [.bool true])
    (ps := [(((List.length a0 : Nat) : Int) == (0 : Int)) = true]) (by kernel_rfl) ⟨(beq_t h1), trivial⟩ get_impl_forestText (by decide)

theorem impl_forestText_p2 (a0 : (List ByteArray)) (c1 : ByteArray)
    (h1 : ((List.length a0 : Nat) : Int) ≠ (0 : Int))
    (h2 : SC cfg.P i_strings_Join [.s (.v (.sl .str) a0), .s (.v .str (⟨#[32]⟩ : ByteArray))] (.s (.v .str c1)) []) :
    SC cfg.P i_impl_forestText [.s (.v (.sl .str) a0)] (.s (.v .str c1)) [] :=
  SC_of_run cfgOK (its := [.bool false, .res (.s (.v .str c1)) [] [] []])
    (ps := [(((List.length a0 : Nat) : Int) == (0 : Int)) = false,
      SC cfg.P i_strings_Join [.s (.v (.sl .str) a0), .s (.v .str (⟨#[32]⟩ : ByteArray))] (.s (.v .str c1)) []]) (by kernel_rfl) ⟨(beq_f h1), h2, trivial⟩ get_impl_forestText (by decide)

end Go.AI
