/- A part of the road: what it proves stands in its last texts. -/
import Derived.Test.YtnoajkfmokcekaaSIds
import Derived.Test.YtnoajkfmokcekaaProg
set_option autoImplicit false
set_option maxRecDepth 100000
set_option linter.unusedVariables false
namespace Go.AI
open Go.Proofs

/-! ### laws_FnExactAreSamePairs -/


theorem laws_FnExactAreSamePairs_p1 (a0 : (ByteArray × ByteArray)) (a1 : (ByteArray × ByteArray)) (c1 : Int)
    (h1 : SC cfg.P i_laws_szPair [.s (.v (.pr .str .str) a0), .s (.v (.int .i64) (1048576 : Int))] (.s (.v (.int .i64) c1)) [])
    (h2 : c1 < (0 : Int)) :
    SC cfg.P i_laws_FnExactAreSamePairs [.s (.v (.pr .str .str) a0), .s (.v (.pr .str .str) a1)] (.s (.v .bool true)) [] :=
  SC_of_run cfgOK (its := [.res (.s (.v (.int .i64) c1)) [] [] [], .bool true])
    (ps := [SC cfg.P i_laws_szPair [.s (.v (.pr .str .str) a0), .s (.v (.int .i64) (1048576 : Int))] (.s (.v (.int .i64) c1)) [],
      decide (c1 < (0 : Int)) = true]) (by kernel_rfl) ⟨h1, (decide_eq_true h2), trivial⟩ get_laws_FnExactAreSamePairs (by decide)

theorem laws_FnExactAreSamePairs_p2 (a0 : (ByteArray × ByteArray)) (a1 : (ByteArray × ByteArray)) (c1 : Int) (c2 : Int)
    (h1 : SC cfg.P i_laws_szPair [.s (.v (.pr .str .str) a0), .s (.v (.int .i64) (1048576 : Int))] (.s (.v (.int .i64) c1)) [])
    (h2 : ¬ (c1 < (0 : Int)))
    (h3 : SC cfg.P i_laws_szPair [.s (.v (.pr .str .str) a1), .s (.v (.int .i64) c1)] (.s (.v (.int .i64) c2)) [])
    (h4 : c2 < (0 : Int)) :
    SC cfg.P i_laws_FnExactAreSamePairs [.s (.v (.pr .str .str) a0), .s (.v (.pr .str .str) a1)] (.s (.v .bool true)) [] :=
  SC_of_run cfgOK (its := [.res (.s (.v (.int .i64) c1)) [] [] [], .bool false, .res (.s (.v (.int .i64) c2)) [] [] [], .bool true])
    (ps := [SC cfg.P i_laws_szPair [.s (.v (.pr .str .str) a0), .s (.v (.int .i64) (1048576 : Int))] (.s (.v (.int .i64) c1)) [],
      decide (c1 < (0 : Int)) = false,
      SC cfg.P i_laws_szPair [.s (.v (.pr .str .str) a1), .s (.v (.int .i64) c1)] (.s (.v (.int .i64) c2)) [],
      decide (c2 < (0 : Int)) = true]) (by kernel_rfl) ⟨h1, (decide_eq_false h2), h3, (decide_eq_true h4), trivial⟩ get_laws_FnExactAreSamePairs (by decide)

theorem laws_FnExactAreSamePairs_p3 (a0 : (ByteArray × ByteArray)) (a1 : (ByteArray × ByteArray)) (c1 : Int) (c2 : Int) (c3 : (ByteArray × ByteArray)) (c4 : (ByteArray × ByteArray)) (c5a : Bool) (c5b : Bool) (c6 : (ByteArray × ByteArray)) (c7 : (ByteArray × ByteArray)) (c8a : Bool) (c8b : Bool)
    (h1 : SC cfg.P i_laws_szPair [.s (.v (.pr .str .str) a0), .s (.v (.int .i64) (1048576 : Int))] (.s (.v (.int .i64) c1)) [])
    (h2 : ¬ (c1 < (0 : Int)))
    (h3 : SC cfg.P i_laws_szPair [.s (.v (.pr .str .str) a1), .s (.v (.int .i64) c1)] (.s (.v (.int .i64) c2)) [])
    (h4 : ¬ (c2 < (0 : Int)))
    (h5 : SC cfg.P i_laws_toPair [.s (.v (.pr .str .str) a0)] (.s (.v (.pr .str .str) c3)) [])
    (h6 : SC cfg.P i_laws_toPair [.s (.v (.pr .str .str) a1)] (.s (.v (.pr .str .str) c4)) [])
    (h7 : SC cfg.P i_spec_AreSamePairs [.s (.v (.pr .str .str) c3), .s (.v (.pr .str .str) c4)] (.tup [.v .bool c5a, .v .bool c5b]) [])
    (h8 : SC cfg.P i_laws_toPair [.s (.v (.pr .str .str) a0)] (.s (.v (.pr .str .str) c6)) [])
    (h9 : SC cfg.P i_laws_toPair [.s (.v (.pr .str .str) a1)] (.s (.v (.pr .str .str) c7)) [])
    (h10 : SC cfg.P i_impl_AreSamePairs [.s (.v (.pr .str .str) c6), .s (.v (.pr .str .str) c7)] (.tup [.v .bool c8a, .v .bool c8b]) [])
    (h11 : (!(c8a == c5a)) = false)
    (h12 : (!(c8b == c5b)) = false) :
    SC cfg.P i_laws_FnExactAreSamePairs [.s (.v (.pr .str .str) a0), .s (.v (.pr .str .str) a1)] (.s (.v .bool true)) [] :=
  SC_of_run cfgOK (its := [.res (.s (.v (.int .i64) c1)) [] [] [], .bool false, .res (.s (.v (.int .i64) c2)) [] [] [], .bool false, .res (.s (.v (.pr .str .str) c3)) [] [] [], .res (.s (.v (.pr .str .str) c4)) [] [] [], .res (.tup [.v .bool c5a, .v .bool c5b]) [] [] [], .res (.s (.v (.pr .str .str) c6)) [] [] [], .res (.s (.v (.pr .str .str) c7)) [] [] [], .res (.tup [.v .bool c8a, .v .bool c8b]) [] [] [], .bool false, .bool false])
    (ps := [SC cfg.P i_laws_szPair [.s (.v (.pr .str .str) a0), .s (.v (.int .i64) (1048576 : Int))] (.s (.v (.int .i64) c1)) [],
      decide (c1 < (0 : Int)) = false,
      SC cfg.P i_laws_szPair [.s (.v (.pr .str .str) a1), .s (.v (.int .i64) c1)] (.s (.v (.int .i64) c2)) [],
      decide (c2 < (0 : Int)) = false,
      SC cfg.P i_laws_toPair [.s (.v (.pr .str .str) a0)] (.s (.v (.pr .str .str) c3)) [],
      SC cfg.P i_laws_toPair [.s (.v (.pr .str .str) a1)] (.s (.v (.pr .str .str) c4)) [],
      SC cfg.P i_spec_AreSamePairs [.s (.v (.pr .str .str) c3), .s (.v (.pr .str .str) c4)] (.tup [.v .bool c5a, .v .bool c5b]) [],
      SC cfg.P i_laws_toPair [.s (.v (.pr .str .str) a0)] (.s (.v (.pr .str .str) c6)) [],
      SC cfg.P i_laws_toPair [.s (.v (.pr .str .str) a1)] (.s (.v (.pr .str .str) c7)) [],
      SC cfg.P i_impl_AreSamePairs [.s (.v (.pr .str .str) c6), .s (.v (.pr .str .str) c7)] (.tup [.v .bool c8a, .v .bool c8b]) [],
      (!(c8a == c5a)) = false,
      (!(c8b == c5b)) = false]) (by kernel_rfl) ⟨h1, (decide_eq_false h2), h3, (decide_eq_false h4), h5, h6, h7, h8, h9, h10, h11, h12, trivial⟩ get_laws_FnExactAreSamePairs (by decide)

/-! ### spec_AreSamePairs -/


theorem spec_AreSamePairs_p1 (a0 : (ByteArray × ByteArray)) (a1 : (ByteArray × ByteArray)) (c3 : (ByteArray × ByteArray)) (c4 : (ByteArray × ByteArray))
    (h1 : SC cfg.P i_spec_prGood [.s (.v (.pr .str .str) a0)] (.s (.v .bool true)) [])
    (h2 : SC cfg.P i_spec_prGood [.s (.v (.pr .str .str) a1)] (.s (.v .bool true)) [])
    (h3 : SC cfg.P i_spec_prReduce [.s (.v (.pr .str .str) a0), .s (.v (.sl (.int .i64)) ([] : List Int))] (.s (.v (.pr .str .str) c3)) [])
    (h4 : SC cfg.P i_spec_prReduce [.s (.v (.pr .str .str) a1), .s (.v (.sl (.int .i64)) ([] : List Int))] (.s (.v (.pr .str .str) c4)) [])
    (h5 : (((c3.1).toList == (c4.1).toList) && ((c3.2).toList == (c4.2).toList)) = true) :
    SC cfg.P i_spec_AreSamePairs [.s (.v (.pr .str .str) a0), .s (.v (.pr .str .str) a1)] (.tup [.v .bool true, .v .bool true]) [] :=
  SC_of_run cfgOK (its := [.res (.s (.v .bool true)) [] [] [], .res (.s (.v .bool true)) [] [] [], .res (.s (.v (.pr .str .str) c3)) [] [] [], .res (.s (.v (.pr .str .str) c4)) [] [] [], .bool true])
    (ps := [SC cfg.P i_spec_prGood [.s (.v (.pr .str .str) a0)] (.s (.v .bool true)) [],
      SC cfg.P i_spec_prGood [.s (.v (.pr .str .str) a1)] (.s (.v .bool true)) [],
      SC cfg.P i_spec_prReduce [.s (.v (.pr .str .str) a0), .s (.v (.sl (.int .i64)) ([] : List Int))] (.s (.v (.pr .str .str) c3)) [],
      SC cfg.P i_spec_prReduce [.s (.v (.pr .str .str) a1), .s (.v (.sl (.int .i64)) ([] : List Int))] (.s (.v (.pr .str .str) c4)) [],
      (((c3.1).toList == (c4.1).toList) && ((c3.2).toList == (c4.2).toList)) = true]) (by kernel_rfl) ⟨h1, h2, h3, h4, h5, trivial⟩ get_spec_AreSamePairs (by decide)

theorem spec_AreSamePairs_p2 (a0 : (ByteArray × ByteArray)) (a1 : (ByteArray × ByteArray)) (c3 : (ByteArray × ByteArray)) (c4 : (ByteArray × ByteArray))
    (h1 : SC cfg.P i_spec_prGood [.s (.v (.pr .str .str) a0)] (.s (.v .bool true)) [])
    (h2 : SC cfg.P i_spec_prGood [.s (.v (.pr .str .str) a1)] (.s (.v .bool true)) [])
    (h3 : SC cfg.P i_spec_prReduce [.s (.v (.pr .str .str) a0), .s (.v (.sl (.int .i64)) ([] : List Int))] (.s (.v (.pr .str .str) c3)) [])
    (h4 : SC cfg.P i_spec_prReduce [.s (.v (.pr .str .str) a1), .s (.v (.sl (.int .i64)) ([] : List Int))] (.s (.v (.pr .str .str) c4)) [])
    (h5 : (((c3.1).toList == (c4.1).toList) && ((c3.2).toList == (c4.2).toList)) = false) :
    SC cfg.P i_spec_AreSamePairs [.s (.v (.pr .str .str) a0), .s (.v (.pr .str .str) a1)] (.tup [.v .bool false, .v .bool true]) [] :=
  SC_of_run cfgOK (its := [.res (.s (.v .bool true)) [] [] [], .res (.s (.v .bool true)) [] [] [], .res (.s (.v (.pr .str .str) c3)) [] [] [], .res (.s (.v (.pr .str .str) c4)) [] [] [], .bool false])
    (ps := [SC cfg.P i_spec_prGood [.s (.v (.pr .str .str) a0)] (.s (.v .bool true)) [],
      SC cfg.P i_spec_prGood [.s (.v (.pr .str .str) a1)] (.s (.v .bool true)) [],
      SC cfg.P i_spec_prReduce [.s (.v (.pr .str .str) a0), .s (.v (.sl (.int .i64)) ([] : List Int))] (.s (.v (.pr .str .str) c3)) [],
      SC cfg.P i_spec_prReduce [.s (.v (.pr .str .str) a1), .s (.v (.sl (.int .i64)) ([] : List Int))] (.s (.v (.pr .str .str) c4)) [],
      (((c3.1).toList == (c4.1).toList) && ((c3.2).toList == (c4.2).toList)) = false]) (by kernel_rfl) ⟨h1, h2, h3, h4, h5, trivial⟩ get_spec_AreSamePairs (by decide)

theorem spec_AreSamePairs_p3 (a0 : (ByteArray × ByteArray)) (a1 : (ByteArray × ByteArray))
    (h1 : SC cfg.P i_spec_prGood [.s (.v (.pr .str .str) a0)] (.s (.v .bool true)) [])
    (h2 : SC cfg.P i_spec_prGood [.s (.v (.pr .str .str) a1)] (.s (.v .bool false)) []) :
    SC cfg.P i_spec_AreSamePairs [.s (.v (.pr .str .str) a0), .s (.v (.pr .str .str) a1)] (.tup [.v .bool false, .v .bool false]) [] :=
  SC_of_run cfgOK (its := [.res (.s (.v .bool true)) [] [] [], .res (.s (.v .bool false)) [] [] []])
    (ps := [SC cfg.P i_spec_prGood [.s (.v (.pr .str .str) a0)] (.s (.v .bool true)) [],
      SC cfg.P i_spec_prGood [.s (.v (.pr .str .str) a1)] (.s (.v .bool false)) []]) (by kernel_rfl) ⟨h1, h2, trivial⟩ get_spec_AreSamePairs (by decide)

theorem spec_AreSamePairs_p4 (a0 : (ByteArray × ByteArray)) (a1 : (ByteArray × ByteArray))
    (h1 : SC cfg.P i_spec_prGood [.s (.v (.pr .str .str) a0)] (.s (.v .bool false)) []) :
    SC cfg.P i_spec_AreSamePairs [.s (.v (.pr .str .str) a0), .s (.v (.pr .str .str) a1)] (.tup [.v .bool false, .v .bool false]) [] :=
  SC_of_run cfgOK (its := [.res (.s (.v .bool false)) [] [] []])
    (ps := [SC cfg.P i_spec_prGood [.s (.v (.pr .str .str) a0)] (.s (.v .bool false)) []]) (by kernel_rfl) ⟨h1, trivial⟩ get_spec_AreSamePairs (by decide)

/-! ### impl_AreSamePairs -/


theorem impl_AreSamePairs_p1 (a0 : (ByteArray × ByteArray)) (a1 : (ByteArray × ByteArray)) (c1a : (Tr × Tr)) (c1b : (Tr × Tr)) (c2 : Bool)
    (h1 : SC cfg.P i_impl_two [.s (.v (.pr .str .str) a0), .s (.v (.pr .str .str) a1)] (.tup [.v (.pr .tree .tree) c1a, .v (.pr .tree .tree) c1b, .v .bool true]) [])
    (h2 : SC cfg.P i_impl_pair_same [.s (.v (.pr .tree .tree) c1a), .s (.v (.pr .tree .tree) c1b)] (.s (.v .bool c2)) []) :
    SC cfg.P i_impl_AreSamePairs [.s (.v (.pr .str .str) a0), .s (.v (.pr .str .str) a1)] (.tup [.v .bool c2, .v .bool true]) [] :=
  SC_of_run cfgOK (its := [.res (.tup [.v (.pr .tree .tree) c1a, .v (.pr .tree .tree) c1b, .v .bool true]) [] [] [], .res (.s (.v .bool c2)) [] [] []])
    (ps := [SC cfg.P i_impl_two [.s (.v (.pr .str .str) a0), .s (.v (.pr .str .str) a1)] (.tup [.v (.pr .tree .tree) c1a, .v (.pr .tree .tree) c1b, .v .bool true]) [],
      SC cfg.P i_impl_pair_same [.s (.v (.pr .tree .tree) c1a), .s (.v (.pr .tree .tree) c1b)] (.s (.v .bool c2)) []]) (by kernel_rfl) ⟨h1, h2, trivial⟩ get_impl_AreSamePairs (by decide)

theorem impl_AreSamePairs_p2 (a0 : (ByteArray × ByteArray)) (a1 : (ByteArray × ByteArray)) (c1a : (Tr × Tr)) (c1b : (Tr × Tr))
    (h1 : SC cfg.P i_impl_two [.s (.v (.pr .str .str) a0), .s (.v (.pr .str .str) a1)] (.tup [.v (.pr .tree .tree) c1a, .v (.pr .tree .tree) c1b, .v .bool false]) []) :
    SC cfg.P i_impl_AreSamePairs [.s (.v (.pr .str .str) a0), .s (.v (.pr .str .str) a1)] (.tup [.v .bool false, .v .bool false]) [] :=
  SC_of_run cfgOK (its := [.res (.tup [.v (.pr .tree .tree) c1a, .v (.pr .tree .tree) c1b, .v .bool false]) [] [] []])
    (ps := [SC cfg.P i_impl_two [.s (.v (.pr .str .str) a0), .s (.v (.pr .str .str) a1)] (.tup [.v (.pr .tree .tree) c1a, .v (.pr .tree .tree) c1b, .v .bool false]) []]) (by kernel_rfl) ⟨h1, trivial⟩ get_impl_AreSamePairs (by decide)

/-! ### impl_two -/


theorem impl_two_p1 (a0 : (ByteArray × ByteArray)) (a1 : (ByteArray × ByteArray)) (c1a : (Tr × Tr)) (c2a : (Tr × Tr)) (c2b : Bool)
    (h1 : SC cfg.P i_impl_pairOf [.s (.v (.pr .str .str) a0)] (.tup [.v (.pr .tree .tree) c1a, .v .bool true]) [])
    (h2 : SC cfg.P i_impl_pairOf [.s (.v (.pr .str .str) a1)] (.tup [.v (.pr .tree .tree) c2a, .v .bool c2b]) []) :
    SC cfg.P i_impl_two [.s (.v (.pr .str .str) a0), .s (.v (.pr .str .str) a1)] (.tup [.v (.pr .tree .tree) c1a, .v (.pr .tree .tree) c2a, .v .bool c2b]) [] :=
  SC_of_run cfgOK (its := [.res (.tup [.v (.pr .tree .tree) c1a, .v .bool true]) [] [] [], .res (.tup [.v (.pr .tree .tree) c2a, .v .bool c2b]) [] [] []])
    (ps := [SC cfg.P i_impl_pairOf [.s (.v (.pr .str .str) a0)] (.tup [.v (.pr .tree .tree) c1a, .v .bool true]) [],
      SC cfg.P i_impl_pairOf [.s (.v (.pr .str .str) a1)] (.tup [.v (.pr .tree .tree) c2a, .v .bool c2b]) []]) (by kernel_rfl) ⟨h1, h2, trivial⟩ get_impl_two (by decide)

theorem impl_two_p2 (a0 : (ByteArray × ByteArray)) (a1 : (ByteArray × ByteArray)) (c1a : (Tr × Tr)) (c2a : (Tr × Tr)) (c2b : Bool)
    (h1 : SC cfg.P i_impl_pairOf [.s (.v (.pr .str .str) a0)] (.tup [.v (.pr .tree .tree) c1a, .v .bool false]) [])
    (h2 : SC cfg.P i_impl_pairOf [.s (.v (.pr .str .str) a1)] (.tup [.v (.pr .tree .tree) c2a, .v .bool c2b]) []) :
    SC cfg.P i_impl_two [.s (.v (.pr .str .str) a0), .s (.v (.pr .str .str) a1)] (.tup [.v (.pr .tree .tree) c1a, .v (.pr .tree .tree) c2a, .v .bool false]) [] :=
  SC_of_run cfgOK (its := [.res (.tup [.v (.pr .tree .tree) c1a, .v .bool false]) [] [] [], .res (.tup [.v (.pr .tree .tree) c2a, .v .bool c2b]) [] [] []])
    (ps := [SC cfg.P i_impl_pairOf [.s (.v (.pr .str .str) a0)] (.tup [.v (.pr .tree .tree) c1a, .v .bool false]) [],
      SC cfg.P i_impl_pairOf [.s (.v (.pr .str .str) a1)] (.tup [.v (.pr .tree .tree) c2a, .v .bool c2b]) []]) (by kernel_rfl) ⟨h1, h2, trivial⟩ get_impl_two (by decide)

/-! ### impl_pair_same -/


theorem impl_pair_same_p1 (a0 : (Tr × Tr)) (a1 : (Tr × Tr)) (c1 : (Tr × Tr)) (c2 : ByteArray) (c3 : (Tr × Tr)) (c4 : ByteArray)
    (h1 : SC cfg.P i_impl_pair_reduced [.s (.v (.pr .tree .tree) a0)] (.s (.v (.pr .tree .tree) c1)) [])
    (h2 : SC cfg.P i_impl_pair_text [.s (.v (.pr .tree .tree) c1)] (.s (.v .str c2)) [])
    (h3 : SC cfg.P i_impl_pair_reduced [.s (.v (.pr .tree .tree) a1)] (.s (.v (.pr .tree .tree) c3)) [])
    (h4 : SC cfg.P i_impl_pair_text [.s (.v (.pr .tree .tree) c3)] (.s (.v .str c4)) [])
    (h5 : c2 = c4) :
    SC cfg.P i_impl_pair_same [.s (.v (.pr .tree .tree) a0), .s (.v (.pr .tree .tree) a1)] (.s (.v .bool true)) [] :=
  SC_of_run cfgOK (its := [.res (.s (.v (.pr .tree .tree) c1)) [] [] [], .res (.s (.v .str c2)) [] [] [], .res (.s (.v (.pr .tree .tree) c3)) [] [] [], .res (.s (.v .str c4)) [] [] [], .bool true])
    (ps := [SC cfg.P i_impl_pair_reduced [.s (.v (.pr .tree .tree) a0)] (.s (.v (.pr .tree .tree) c1)) [],
      SC cfg.P i_impl_pair_text [.s (.v (.pr .tree .tree) c1)] (.s (.v .str c2)) [],
      SC cfg.P i_impl_pair_reduced [.s (.v (.pr .tree .tree) a1)] (.s (.v (.pr .tree .tree) c3)) [],
      SC cfg.P i_impl_pair_text [.s (.v (.pr .tree .tree) c3)] (.s (.v .str c4)) [],
      ((c2).toList == (c4).toList) = true]) (by kernel_rfl) ⟨h1, h2, h3, h4, (seq_t h5), trivial⟩ get_impl_pair_same (by decide)

theorem impl_pair_same_p2 (a0 : (Tr × Tr)) (a1 : (Tr × Tr)) (c1 : (Tr × Tr)) (c2 : ByteArray) (c3 : (Tr × Tr)) (c4 : ByteArray)
    (h1 : SC cfg.P i_impl_pair_reduced [.s (.v (.pr .tree .tree) a0)] (.s (.v (.pr .tree .tree) c1)) [])
    (h2 : SC cfg.P i_impl_pair_text [.s (.v (.pr .tree .tree) c1)] (.s (.v .str c2)) [])
    (h3 : SC cfg.P i_impl_pair_reduced [.s (.v (.pr .tree .tree) a1)] (.s (.v (.pr .tree .tree) c3)) [])
    (h4 : SC cfg.P i_impl_pair_text [.s (.v (.pr .tree .tree) c3)] (.s (.v .str c4)) [])
    (h5 : c2 ≠ c4) :
    SC cfg.P i_impl_pair_same [.s (.v (.pr .tree .tree) a0), .s (.v (.pr .tree .tree) a1)] (.s (.v .bool false)) [] :=
  SC_of_run cfgOK (its := [.res (.s (.v (.pr .tree .tree) c1)) [] [] [], .res (.s (.v .str c2)) [] [] [], .res (.s (.v (.pr .tree .tree) c3)) [] [] [], .res (.s (.v .str c4)) [] [] [], .bool false])
    (ps := [SC cfg.P i_impl_pair_reduced [.s (.v (.pr .tree .tree) a0)] (.s (.v (.pr .tree .tree) c1)) [],
      SC cfg.P i_impl_pair_text [.s (.v (.pr .tree .tree) c1)] (.s (.v .str c2)) [],
      SC cfg.P i_impl_pair_reduced [.s (.v (.pr .tree .tree) a1)] (.s (.v (.pr .tree .tree) c3)) [],
      SC cfg.P i_impl_pair_text [.s (.v (.pr .tree .tree) c3)] (.s (.v .str c4)) [],
      ((c2).toList == (c4).toList) = false]) (by kernel_rfl) ⟨h1, h2, h3, h4, (seq_f h5), trivial⟩ get_impl_pair_same (by decide)

/-! ### impl_pair_text -/


theorem impl_pair_text_p1 (a0 : (Tr × Tr)) (c1 : ByteArray) (c2 : ByteArray)
    (h1 : SC cfg.P i_impl_node_text [.s (.v .tree a0.1)] (.s (.v .str c1)) [])
    (h2 : (c1).size + ((⟨#[62]⟩ : ByteArray)).size ≤ 2 ^ 62)
    (h3 : SC cfg.P i_impl_node_text [.s (.v .tree a0.2)] (.s (.v .str c2)) [])
    (h4 : ((c1 ++ (⟨#[62]⟩ : ByteArray))).size + (c2).size ≤ 2 ^ 62) :
    SC cfg.P i_impl_pair_text [.s (.v (.pr .tree .tree) a0)] (.s (.v .str ((c1 ++ (⟨#[62]⟩ : ByteArray)) ++ c2))) [] :=
  SC_of_run cfgOK (its := [.res (.s (.v .str c1)) [] [] [], .res (.s (.v .str c2)) [] [] []])
    (ps := [SC cfg.P i_impl_node_text [.s (.v .tree a0.1)] (.s (.v .str c1)) [],
      (c1).size + ((⟨#[62]⟩ : ByteArray)).size ≤ 2 ^ 62,
      SC cfg.P i_impl_node_text [.s (.v .tree a0.2)] (.s (.v .str c2)) [],
      ((c1 ++ (⟨#[62]⟩ : ByteArray))).size + (c2).size ≤ 2 ^ 62]) (by kernel_rfl) ⟨h1, h2, h3, h4, trivial⟩ get_impl_pair_text (by decide)

end Go.AI
