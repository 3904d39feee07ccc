/- A part of the road: what it proves stands in its last texts. -/
import Derived.Test.YtdfllkeekehplaaSIds
import Derived.Test.YtdfllkeekehplaaProg
set_option autoImplicit false
set_option maxRecDepth 100000
set_option linter.unusedVariables false
namespace Go.AI
open Go.Proofs

/-! ### impl_JoinTrees -/


/-! ### spec_JoinTrees -/


/-! ### impl_CommonTree -/


/-! ### spec_CommonTree -/


/-! ### impl_IsPartOf -/


/-! ### spec_IsPartOf -/


/-! ### impl_SubtreeAt -/


/-! ### spec_SubtreeAt -/


/-! ### impl_GraftAt -/


/-! ### spec_GraftAt -/


/-! ### impl_AddressesOf -/


/-! ### spec_l1In -/


theorem spec_l1In_p1 (a0 : Int) (a1 : Int) (a2 : Int)
    (h1 : a0 ≥ a1)
    (h2 : a0 ≤ a2) :
    SC cfg.P i_spec_l1In [.s (.v (.int .i64) a0), .s (.v (.int .i64) a1), .s (.v (.int .i64) a2)] (.s (.v .bool true)) [] :=
  SC_of_run cfgOK (its := [.bool true, .bool true])
    (ps := [decide (a0 ≥ a1) = true,
      decide (a0 ≤ a2) = true]) (by kernel_rfl) ⟨(decide_eq_true h1), (decide_eq_true h2), trivial⟩ get_spec_l1In (by decide)

theorem spec_l1In_p2 (a0 : Int) (a1 : Int) (a2 : Int)
    (h1 : a0 ≥ a1)
    (h2 : ¬ (a0 ≤ a2)) :
    SC cfg.P i_spec_l1In [.s (.v (.int .i64) a0), .s (.v (.int .i64) a1), .s (.v (.int .i64) a2)] (.s (.v .bool false)) [] :=
  SC_of_run cfgOK (its := [.bool true, .bool false])
    (ps := [decide (a0 ≥ a1) = true,
      decide (a0 ≤ a2) = false]) (by kernel_rfl) ⟨(decide_eq_true h1), (decide_eq_false h2), trivial⟩ get_spec_l1In (by decide)

theorem spec_l1In_p3 (a0 : Int) (a1 : Int) (a2 : Int)
    (h1 : ¬ (a0 ≥ a1)) :
    SC cfg.P i_spec_l1In [.s (.v (.int .i64) a0), .s (.v (.int .i64) a1), .s (.v (.int .i64) a2)] (.s (.v .bool false)) [] :=
  SC_of_run cfgOK (its := [.bool false])
    (ps := [decide (a0 ≥ a1) = false]) (by kernel_rfl) ⟨(decide_eq_false h1), trivial⟩ get_spec_l1In (by decide)

/-! ### impl_told -/


/-! ### impl_common -/


/-! ### spec_trCommon -/


/-! ### impl_isPart -/


/-! ### spec_trAt -/


/-! ### impl_hasLeaf -/


/-! ### impl_node_graft -/


/-! ### spec_trLeaves -/


end Go.AI
