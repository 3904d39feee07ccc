/- A part of the road: what it proves stands in its last texts. -/
import Derived.Test.YtlkjnlhpdjbjdaaSIds
import Derived.Test.YtlkjnlhpdjbjdaaProg
set_option autoImplicit false
set_option maxRecDepth 100000
set_option linter.unusedVariables false
namespace Go.AI
open Go.Proofs

/-! ### laws_szPair -/


theorem laws_szPair_p1 (a0 : (ByteArray × ByteArray)) (a1 : Int)
    (h1 : (IntKind.wrap .i64 (a1 - ((a0.1).size : Int))) < (0 : Int)) :
    SC cfg.P i_laws_szPair [.s (.v (.pr .str .str) a0), .s (.v (.int .i64) a1)] (.s (.v (.int .i64) (-1 : Int))) [] :=
  SC_of_run cfgOK (its := [.bool true])
    (ps := [decide ((IntKind.wrap .i64 (a1 - ((a0.1).size : Int))) < (0 : Int)) = true]) (by kernel_rfl) ⟨(decide_eq_true h1), trivial⟩ get_laws_szPair (by decide)

theorem laws_szPair_p2 (a0 : (ByteArray × ByteArray)) (a1 : Int)
    (h1 : ¬ ((IntKind.wrap .i64 (a1 - ((a0.1).size : Int))) < (0 : Int)))
    (h2 : (IntKind.wrap .i64 ((IntKind.wrap .i64 (a1 - ((a0.1).size : Int))) - ((a0.2).size : Int))) < (0 : Int)) :
    SC cfg.P i_laws_szPair [.s (.v (.pr .str .str) a0), .s (.v (.int .i64) a1)] (.s (.v (.int .i64) (-1 : Int))) [] :=
  SC_of_run cfgOK (its := [.bool false, .bool true])
    (ps := [decide ((IntKind.wrap .i64 (a1 - ((a0.1).size : Int))) < (0 : Int)) = false,
      decide ((IntKind.wrap .i64 ((IntKind.wrap .i64 (a1 - ((a0.1).size : Int))) - ((a0.2).size : Int))) < (0 : Int)) = true]) (by kernel_rfl) ⟨(decide_eq_false h1), (decide_eq_true h2), trivial⟩ get_laws_szPair (by decide)

theorem laws_szPair_p3 (a0 : (ByteArray × ByteArray)) (a1 : Int)
    (h1 : ¬ ((IntKind.wrap .i64 (a1 - ((a0.1).size : Int))) < (0 : Int)))
    (h2 : ¬ ((IntKind.wrap .i64 ((IntKind.wrap .i64 (a1 - ((a0.1).size : Int))) - ((a0.2).size : Int))) < (0 : Int))) :
    SC cfg.P i_laws_szPair [.s (.v (.pr .str .str) a0), .s (.v (.int .i64) a1)] (.s (.v (.int .i64) (IntKind.wrap .i64 ((IntKind.wrap .i64 (a1 - ((a0.1).size : Int))) - ((a0.2).size : Int))))) [] :=
  SC_of_run cfgOK (its := [.bool false, .bool false])
    (ps := [decide ((IntKind.wrap .i64 (a1 - ((a0.1).size : Int))) < (0 : Int)) = false,
      decide ((IntKind.wrap .i64 ((IntKind.wrap .i64 (a1 - ((a0.1).size : Int))) - ((a0.2).size : Int))) < (0 : Int)) = false]) (by kernel_rfl) ⟨(decide_eq_false h1), (decide_eq_false h2), trivial⟩ get_laws_szPair (by decide)

/-! ### laws_toPair -/


theorem laws_toPair_p1 (a0 : (ByteArray × ByteArray))
     :
    SC cfg.P i_laws_toPair [.s (.v (.pr .str .str) a0)] (.s (.v (.pr .str .str) (a0.1, a0.2))) [] :=
  SC_of_run cfgOK (its := [])
    (ps := []) (by kernel_rfl) trivial get_laws_toPair (by decide)

/-! ### spec_prGood -/


theorem spec_prGood_p1 (a0 : (ByteArray × ByteArray)) (c3 : Int) (c4 : Int)
    (h1 : SC cfg.P i_spec_trIs [.s (.v .str a0.1)] (.s (.v .bool true)) [])
    (h2 : SC cfg.P i_spec_trIs [.s (.v .str a0.2)] (.s (.v .bool true)) [])
    (h3 : SC cfg.P i_spec_trCarets [.s (.v .str a0.1)] (.s (.v (.int .i64) c3)) [])
    (h4 : SC cfg.P i_spec_trCarets [.s (.v .str a0.2)] (.s (.v (.int .i64) c4)) [])
    (h5 : c3 = c4) :
    SC cfg.P i_spec_prGood [.s (.v (.pr .str .str) a0)] (.s (.v .bool true)) [] :=
  SC_of_run cfgOK (its := [.res (.s (.v .bool true)) [] [] [], .res (.s (.v .bool true)) [] [] [], .res (.s (.v (.int .i64) c3)) [] [] [], .res (.s (.v (.int .i64) c4)) [] [] [], .bool true])
    (ps := [SC cfg.P i_spec_trIs [.s (.v .str a0.1)] (.s (.v .bool true)) [],
      SC cfg.P i_spec_trIs [.s (.v .str a0.2)] (.s (.v .bool true)) [],
      SC cfg.P i_spec_trCarets [.s (.v .str a0.1)] (.s (.v (.int .i64) c3)) [],
      SC cfg.P i_spec_trCarets [.s (.v .str a0.2)] (.s (.v (.int .i64) c4)) [],
      (c3 == c4) = true]) (by kernel_rfl) ⟨h1, h2, h3, h4, (beq_t h5), trivial⟩ get_spec_prGood (by decide)

theorem spec_prGood_p2 (a0 : (ByteArray × ByteArray)) (c3 : Int) (c4 : Int)
    (h1 : SC cfg.P i_spec_trIs [.s (.v .str a0.1)] (.s (.v .bool true)) [])
    (h2 : SC cfg.P i_spec_trIs [.s (.v .str a0.2)] (.s (.v .bool true)) [])
    (h3 : SC cfg.P i_spec_trCarets [.s (.v .str a0.1)] (.s (.v (.int .i64) c3)) [])
    (h4 : SC cfg.P i_spec_trCarets [.s (.v .str a0.2)] (.s (.v (.int .i64) c4)) [])
    (h5 : c3 ≠ c4) :
    SC cfg.P i_spec_prGood [.s (.v (.pr .str .str) a0)] (.s (.v .bool false)) [] :=
  SC_of_run cfgOK (its := [.res (.s (.v .bool true)) [] [] [], .res (.s (.v .bool true)) [] [] [], .res (.s (.v (.int .i64) c3)) [] [] [], .res (.s (.v (.int .i64) c4)) [] [] [], .bool false])
    (ps := [SC cfg.P i_spec_trIs [.s (.v .str a0.1)] (.s (.v .bool true)) [],
      SC cfg.P i_spec_trIs [.s (.v .str a0.2)] (.s (.v .bool true)) [],
      SC cfg.P i_spec_trCarets [.s (.v .str a0.1)] (.s (.v (.int .i64) c3)) [],
      SC cfg.P i_spec_trCarets [.s (.v .str a0.2)] (.s (.v (.int .i64) c4)) [],
      (c3 == c4) = false]) (by kernel_rfl) ⟨h1, h2, h3, h4, (beq_f h5), trivial⟩ get_spec_prGood (by decide)

theorem spec_prGood_p3 (a0 : (ByteArray × ByteArray))
    (h1 : SC cfg.P i_spec_trIs [.s (.v .str a0.1)] (.s (.v .bool true)) [])
    (h2 : SC cfg.P i_spec_trIs [.s (.v .str a0.2)] (.s (.v .bool false)) []) :
    SC cfg.P i_spec_prGood [.s (.v (.pr .str .str) a0)] (.s (.v .bool false)) [] :=
  SC_of_run cfgOK (its := [.res (.s (.v .bool true)) [] [] [], .res (.s (.v .bool false)) [] [] []])
    (ps := [SC cfg.P i_spec_trIs [.s (.v .str a0.1)] (.s (.v .bool true)) [],
      SC cfg.P i_spec_trIs [.s (.v .str a0.2)] (.s (.v .bool false)) []]) (by kernel_rfl) ⟨h1, h2, trivial⟩ get_spec_prGood (by decide)

theorem spec_prGood_p4 (a0 : (ByteArray × ByteArray))
    (h1 : SC cfg.P i_spec_trIs [.s (.v .str a0.1)] (.s (.v .bool false)) []) :
    SC cfg.P i_spec_prGood [.s (.v (.pr .str .str) a0)] (.s (.v .bool false)) [] :=
  SC_of_run cfgOK (its := [.res (.s (.v .bool false)) [] [] []])
    (ps := [SC cfg.P i_spec_trIs [.s (.v .str a0.1)] (.s (.v .bool false)) []]) (by kernel_rfl) ⟨h1, trivial⟩ get_spec_prGood (by decide)

/-! ### impl_pairOf -/


theorem impl_pairOf_p1 (a0 : (ByteArray × ByteArray)) (c1a : Tr) (c2a : Tr) (c3 : Int) (c4 : Int)
    (h1 : SC cfg.P i_impl_parse [.s (.v .str a0.1)] (.tup [.v .tree c1a, .v .bool true]) [])
    (h2 : SC cfg.P i_impl_parse [.s (.v .str a0.2)] (.tup [.v .tree c2a, .v .bool true]) [])
    (h3 : SC cfg.P i_impl_node_carets [.s (.v .tree c1a)] (.s (.v (.int .i64) c3)) [])
    (h4 : SC cfg.P i_impl_node_carets [.s (.v .tree c2a)] (.s (.v (.int .i64) c4)) [])
    (h5 : c3 = c4) :
    SC cfg.P i_impl_pairOf [.s (.v (.pr .str .str) a0)] (.tup [.v (.pr .tree .tree) (c1a, c2a), .v .bool true]) [] :=
  SC_of_run cfgOK (its := [.res (.tup [.v .tree c1a, .v .bool true]) [] [] [], .res (.tup [.v .tree c2a, .v .bool true]) [] [] [], .res (.s (.v (.int .i64) c3)) [] [] [], .res (.s (.v (.int .i64) c4)) [] [] [], .bool true])
    (ps := [SC cfg.P i_impl_parse [.s (.v .str a0.1)] (.tup [.v .tree c1a, .v .bool true]) [],
      SC cfg.P i_impl_parse [.s (.v .str a0.2)] (.tup [.v .tree c2a, .v .bool true]) [],
      SC cfg.P i_impl_node_carets [.s (.v .tree c1a)] (.s (.v (.int .i64) c3)) [],
      SC cfg.P i_impl_node_carets [.s (.v .tree c2a)] (.s (.v (.int .i64) c4)) [],
      (c3 == c4) = true]) (by kernel_rfl) ⟨h1, h2, h3, h4, (beq_t h5), trivial⟩ get_impl_pairOf (by decide)

theorem impl_pairOf_p2 (a0 : (ByteArray × ByteArray)) (c1a : Tr) (c2a : Tr) (c3 : Int) (c4 : Int)
    (h1 : SC cfg.P i_impl_parse [.s (.v .str a0.1)] (.tup [.v .tree c1a, .v .bool true]) [])
    (h2 : SC cfg.P i_impl_parse [.s (.v .str a0.2)] (.tup [.v .tree c2a, .v .bool true]) [])
    (h3 : SC cfg.P i_impl_node_carets [.s (.v .tree c1a)] (.s (.v (.int .i64) c3)) [])
    (h4 : SC cfg.P i_impl_node_carets [.s (.v .tree c2a)] (.s (.v (.int .i64) c4)) [])
    (h5 : c3 ≠ c4) :
    SC cfg.P i_impl_pairOf [.s (.v (.pr .str .str) a0)] (.tup [.v (.pr .tree .tree) (c1a, c2a), .v .bool false]) [] :=
  SC_of_run cfgOK (its := [.res (.tup [.v .tree c1a, .v .bool true]) [] [] [], .res (.tup [.v .tree c2a, .v .bool true]) [] [] [], .res (.s (.v (.int .i64) c3)) [] [] [], .res (.s (.v (.int .i64) c4)) [] [] [], .bool false])
    (ps := [SC cfg.P i_impl_parse [.s (.v .str a0.1)] (.tup [.v .tree c1a, .v .bool true]) [],
      SC cfg.P i_impl_parse [.s (.v .str a0.2)] (.tup [.v .tree c2a, .v .bool true]) [],
      SC cfg.P i_impl_node_carets [.s (.v .tree c1a)] (.s (.v (.int .i64) c3)) [],
      SC cfg.P i_impl_node_carets [.s (.v .tree c2a)] (.s (.v (.int .i64) c4)) [],
      (c3 == c4) = false]) (by kernel_rfl) ⟨h1, h2, h3, h4, (beq_f h5), trivial⟩ get_impl_pairOf (by decide)

theorem impl_pairOf_p3 (a0 : (ByteArray × ByteArray)) (c1a : Tr) (c2a : Tr)
    (h1 : SC cfg.P i_impl_parse [.s (.v .str a0.1)] (.tup [.v .tree c1a, .v .bool true]) [])
    (h2 : SC cfg.P i_impl_parse [.s (.v .str a0.2)] (.tup [.v .tree c2a, .v .bool false]) []) :
    SC cfg.P i_impl_pairOf [.s (.v (.pr .str .str) a0)] (.tup [.v (.pr .tree .tree) (c1a, c2a), .v .bool false]) [] :=
  SC_of_run cfgOK (its := [.res (.tup [.v .tree c1a, .v .bool true]) [] [] [], .res (.tup [.v .tree c2a, .v .bool false]) [] [] []])
    (ps := [SC cfg.P i_impl_parse [.s (.v .str a0.1)] (.tup [.v .tree c1a, .v .bool true]) [],
      SC cfg.P i_impl_parse [.s (.v .str a0.2)] (.tup [.v .tree c2a, .v .bool false]) []]) (by kernel_rfl) ⟨h1, h2, trivial⟩ get_impl_pairOf (by decide)

theorem impl_pairOf_p4 (a0 : (ByteArray × ByteArray)) (c1a : Tr) (c2a : Tr) (c2b : Bool)
    (h1 : SC cfg.P i_impl_parse [.s (.v .str a0.1)] (.tup [.v .tree c1a, .v .bool false]) [])
    (h2 : SC cfg.P i_impl_parse [.s (.v .str a0.2)] (.tup [.v .tree c2a, .v .bool c2b]) []) :
    SC cfg.P i_impl_pairOf [.s (.v (.pr .str .str) a0)] (.tup [.v (.pr .tree .tree) (c1a, c2a), .v .bool false]) [] :=
  SC_of_run cfgOK (its := [.res (.tup [.v .tree c1a, .v .bool false]) [] [] [], .res (.tup [.v .tree c2a, .v .bool c2b]) [] [] []])
    (ps := [SC cfg.P i_impl_parse [.s (.v .str a0.1)] (.tup [.v .tree c1a, .v .bool false]) [],
      SC cfg.P i_impl_parse [.s (.v .str a0.2)] (.tup [.v .tree c2a, .v .bool c2b]) []]) (by kernel_rfl) ⟨h1, h2, trivial⟩ get_impl_pairOf (by decide)

end Go.AI
