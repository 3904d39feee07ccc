/- A part of the road: what it proves stands in its last texts. -/
import Derived.Test.YtnoajkfmokcekaaSIds
import Derived.Test.YtnoajkfmokcekaaProg
set_option autoImplicit false
set_option maxRecDepth 100000
set_option linter.unusedVariables false
namespace Go.AI
open Go.Proofs

/-! ### laws_FnExactParsePair -/


theorem laws_FnExactParsePair_p1 (a0 : ByteArray)
    (h1 : ((a0).size : Int) > (1048576 : Int)) :
    SC cfg.P i_laws_FnExactParsePair [.s (.v .str a0)] (.s (.v .bool true)) [] :=
  SC_of_run cfgOK (its := [.bool true])
    (ps := [decide (((a0).size : Int) > (1048576 : Int)) = true]) (by kernel_rfl) ⟨(decide_eq_true h1), trivial⟩ get_laws_FnExactParsePair (by decide)

theorem laws_FnExactParsePair_p2 (a0 : ByteArray) (c1a : (ByteArray × ByteArray)) (c1b : Bool) (c2a : (ByteArray × ByteArray)) (c2b : Bool)
    (h1 : ¬ (((a0).size : Int) > (1048576 : Int)))
    (h2 : SC cfg.P i_spec_ParsePair [.s (.v .str a0)] (.tup [.v (.pr .str .str) c1a, .v .bool c1b]) [])
    (h3 : SC cfg.P i_impl_ParsePair [.s (.v .str a0)] (.tup [.v (.pr .str .str) c2a, .v .bool c2b]) [])
    (h4 : SC cfg.P i_laws_eqPair [.s (.v (.pr .str .str) c2a), .s (.v (.pr .str .str) c1a)] (.s (.v .bool true)) [])
    (h5 : (!(c2b == c1b)) = false) :
    SC cfg.P i_laws_FnExactParsePair [.s (.v .str a0)] (.s (.v .bool true)) [] :=
  SC_of_run cfgOK (its := [.bool false, .res (.tup [.v (.pr .str .str) c1a, .v .bool c1b]) [] [] [], .res (.tup [.v (.pr .str .str) c2a, .v .bool c2b]) [] [] [], .res (.s (.v .bool true)) [] [] [], .bool false])
    (ps := [decide (((a0).size : Int) > (1048576 : Int)) = false,
      SC cfg.P i_spec_ParsePair [.s (.v .str a0)] (.tup [.v (.pr .str .str) c1a, .v .bool c1b]) [],
      SC cfg.P i_impl_ParsePair [.s (.v .str a0)] (.tup [.v (.pr .str .str) c2a, .v .bool c2b]) [],
      SC cfg.P i_laws_eqPair [.s (.v (.pr .str .str) c2a), .s (.v (.pr .str .str) c1a)] (.s (.v .bool true)) [],
      (!(c2b == c1b)) = false]) (by kernel_rfl) ⟨(decide_eq_false h1), h2, h3, h4, h5, trivial⟩ get_laws_FnExactParsePair (by decide)

/-! ### impl_ParsePair -/


theorem impl_ParsePair_p1 (a0 : ByteArray) (c1a : ByteArray) (c1b : ByteArray)
    (h1 : SC cfg.P i_strings_Cut [.s (.v .str a0), .s (.v .str (⟨#[62]⟩ : ByteArray))] (.tup [.v .str c1a, .v .str c1b, .v .bool true]) [])
    (h2 : SC cfg.P i_impl_IsPair [.s (.v (.pr .str .str) (c1a, c1b))] (.s (.v .bool true)) []) :
    SC cfg.P i_impl_ParsePair [.s (.v .str a0)] (.tup [.v (.pr .str .str) (c1a, c1b), .v .bool true]) [] :=
  SC_of_run cfgOK (its := [.res (.tup [.v .str c1a, .v .str c1b, .v .bool true]) [] [] [], .res (.s (.v .bool true)) [] [] []])
    (ps := [SC cfg.P i_strings_Cut [.s (.v .str a0), .s (.v .str (⟨#[62]⟩ : ByteArray))] (.tup [.v .str c1a, .v .str c1b, .v .bool true]) [],
      SC cfg.P i_impl_IsPair [.s (.v (.pr .str .str) (c1a, c1b))] (.s (.v .bool true)) []]) (by kernel_rfl) ⟨h1, h2, trivial⟩ get_impl_ParsePair (by decide)

theorem impl_ParsePair_p2 (a0 : ByteArray) (c1a : ByteArray) (c1b : ByteArray)
    (h1 : SC cfg.P i_strings_Cut [.s (.v .str a0), .s (.v .str (⟨#[62]⟩ : ByteArray))] (.tup [.v .str c1a, .v .str c1b, .v .bool true]) [])
    (h2 : SC cfg.P i_impl_IsPair [.s (.v (.pr .str .str) (c1a, c1b))] (.s (.v .bool false)) []) :
    SC cfg.P i_impl_ParsePair [.s (.v .str a0)] (.tup [.v (.pr .str .str) ((⟨#[]⟩ : ByteArray), (⟨#[]⟩ : ByteArray)), .v .bool false]) [] :=
  SC_of_run cfgOK (its := [.res (.tup [.v .str c1a, .v .str c1b, .v .bool true]) [] [] [], .res (.s (.v .bool false)) [] [] []])
    (ps := [SC cfg.P i_strings_Cut [.s (.v .str a0), .s (.v .str (⟨#[62]⟩ : ByteArray))] (.tup [.v .str c1a, .v .str c1b, .v .bool true]) [],
      SC cfg.P i_impl_IsPair [.s (.v (.pr .str .str) (c1a, c1b))] (.s (.v .bool false)) []]) (by kernel_rfl) ⟨h1, h2, trivial⟩ get_impl_ParsePair (by decide)

theorem impl_ParsePair_p3 (a0 : ByteArray) (c1a : ByteArray) (c1b : ByteArray)
    (h1 : SC cfg.P i_strings_Cut [.s (.v .str a0), .s (.v .str (⟨#[62]⟩ : ByteArray))] (.tup [.v .str c1a, .v .str c1b, .v .bool false]) []) :
    SC cfg.P i_impl_ParsePair [.s (.v .str a0)] (.tup [.v (.pr .str .str) ((⟨#[]⟩ : ByteArray), (⟨#[]⟩ : ByteArray)), .v .bool false]) [] :=
  SC_of_run cfgOK (its := [.res (.tup [.v .str c1a, .v .str c1b, .v .bool false]) [] [] []])
    (ps := [SC cfg.P i_strings_Cut [.s (.v .str a0), .s (.v .str (⟨#[62]⟩ : ByteArray))] (.tup [.v .str c1a, .v .str c1b, .v .bool false]) []]) (by kernel_rfl) ⟨h1, trivial⟩ get_impl_ParsePair (by decide)

/-! ### impl_IsPair -/


theorem impl_IsPair_p1 (a0 : (ByteArray × ByteArray)) (c1a : (Tr × Tr)) (c1b : Bool)
    (h1 : SC cfg.P i_impl_pairOf [.s (.v (.pr .str .str) a0)] (.tup [.v (.pr .tree .tree) c1a, .v .bool c1b]) []) :
    SC cfg.P i_impl_IsPair [.s (.v (.pr .str .str) a0)] (.s (.v .bool c1b)) [] :=
  SC_of_run cfgOK (its := [.res (.tup [.v (.pr .tree .tree) c1a, .v .bool c1b]) [] [] []])
    (ps := [SC cfg.P i_impl_pairOf [.s (.v (.pr .str .str) a0)] (.tup [.v (.pr .tree .tree) c1a, .v .bool c1b]) []]) (by kernel_rfl) ⟨h1, trivial⟩ get_impl_IsPair (by decide)

end Go.AI
