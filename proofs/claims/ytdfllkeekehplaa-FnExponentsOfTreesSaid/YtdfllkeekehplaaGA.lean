/- A part of the road: what it proves stands in its last texts. -/
import Derived.Test.YtdfllkeekehplaaSIds
import Derived.Test.YtdfllkeekehplaaProg
set_option autoImplicit false
set_option maxRecDepth 100000
set_option linter.unusedVariables false
namespace Go.AI
open Go.Proofs

/-! ### laws_FnKindsOfCarets -/


/-! ### laws_big -/


theorem laws_big_p1 (a0 : (List Int)) (a1 : (List Int))
    (h1 : ((List.length a0 : Nat) : Int) > (1048576 : Int)) :
    SC cfg.P i_laws_big [.s (.v (.sl (.int .u8)) a0), .s (.v (.sl (.int .u8)) a1)] (.s (.v .bool true)) [] :=
  SC_of_run cfgOK (its := [.bool true])
    (ps := [decide (((List.length a0 : Nat) : Int) > (1048576 : Int)) = true]) (by kernel_rfl) ⟨(decide_eq_true h1), trivial⟩ get_laws_big (by decide)

theorem laws_big_p2 (a0 : (List Int)) (a1 : (List Int))
    (h1 : ¬ (((List.length a0 : Nat) : Int) > (1048576 : Int)))
    (h2 : ((List.length a1 : Nat) : Int) > (IntKind.wrap .i64 ((1048576 : Int) - ((List.length a0 : Nat) : Int)))) :
    SC cfg.P i_laws_big [.s (.v (.sl (.int .u8)) a0), .s (.v (.sl (.int .u8)) a1)] (.s (.v .bool true)) [] :=
  SC_of_run cfgOK (its := [.bool false, .bool true])
    (ps := [decide (((List.length a0 : Nat) : Int) > (1048576 : Int)) = false,
      decide (((List.length a1 : Nat) : Int) > (IntKind.wrap .i64 ((1048576 : Int) - ((List.length a0 : Nat) : Int)))) = true]) (by kernel_rfl) ⟨(decide_eq_false h1), (decide_eq_true h2), trivial⟩ get_laws_big (by decide)

theorem laws_big_p3 (a0 : (List Int)) (a1 : (List Int))
    (h1 : ¬ (((List.length a0 : Nat) : Int) > (1048576 : Int)))
    (h2 : ¬ (((List.length a1 : Nat) : Int) > (IntKind.wrap .i64 ((1048576 : Int) - ((List.length a0 : Nat) : Int))))) :
    SC cfg.P i_laws_big [.s (.v (.sl (.int .u8)) a0), .s (.v (.sl (.int .u8)) a1)] (.s (.v .bool false)) [] :=
  SC_of_run cfgOK (its := [.bool false, .bool false])
    (ps := [decide (((List.length a0 : Nat) : Int) > (1048576 : Int)) = false,
      decide (((List.length a1 : Nat) : Int) > (IntKind.wrap .i64 ((1048576 : Int) - ((List.length a0 : Nat) : Int)))) = false]) (by kernel_rfl) ⟨(decide_eq_false h1), (decide_eq_false h2), trivial⟩ get_laws_big (by decide)

/-! ### impl_CaretsOf -/


theorem impl_CaretsOf_p1 (a0 : ByteArray) (c1a : Tr) (c1b : Bool) (c2 : Int)
    (h1 : SC cfg.P i_impl_parse [.s (.v .str a0)] (.tup [.v .tree c1a, .v .bool c1b]) [])
    (h2 : SC cfg.P i_impl_node_carets [.s (.v .tree c1a)] (.s (.v (.int .i64) c2)) []) :
    SC cfg.P i_impl_CaretsOf [.s (.v .str a0)] (.tup [.v (.int .i64) c2, .v .bool c1b]) [] :=
  SC_of_run cfgOK (its := [.res (.tup [.v .tree c1a, .v .bool c1b]) [] [] [], .res (.s (.v (.int .i64) c2)) [] [] []])
    (ps := [SC cfg.P i_impl_parse [.s (.v .str a0)] (.tup [.v .tree c1a, .v .bool c1b]) [],
      SC cfg.P i_impl_node_carets [.s (.v .tree c1a)] (.s (.v (.int .i64) c2)) []]) (by kernel_rfl) ⟨h1, h2, trivial⟩ get_impl_CaretsOf (by decide)

/-! ### spec_DrawCaretKinds -/


/-! ### impl_CaretKinds -/


/-! ### spec_CaretKinds -/


/-! ### laws_nTexts -/


/-! ### impl_LengthOf -/


/-! ### spec_DrawKindLength -/


/-! ### spec_KindLength -/


end Go.AI
