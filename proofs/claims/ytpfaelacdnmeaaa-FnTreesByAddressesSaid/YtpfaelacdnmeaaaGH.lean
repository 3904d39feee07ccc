/- A part of the road: what it proves stands in its last texts. -/
import Derived.Test.YtpfaelacdnmeaaaSIds
import Derived.Test.YtpfaelacdnmeaaaProg
set_option autoImplicit false
set_option maxRecDepth 100000
set_option linter.unusedVariables false
namespace Go.AI
open Go.Proofs

/-! ### impl_node_graft_k1 -/


theorem impl_node_graft_k1_p1 (a0 : Int) (b0 : Int) (b1 : Tr)
    (h1 : a0 = b0) :
    SC cfg.P i_impl_node_graft_k1 [.s (.v (.int .i64) a0), .s (.fadr (.int .i64) b0), .s (.fadr .tree b1)] (.s (.v .tree b1)) [] :=
  SC_of_run cfgOK (its := [.bool true])
    (ps := [(a0 == b0) = true]) (by kernel_rfl) ⟨(beq_iff_eq.mpr h1), trivial⟩ get_impl_node_graft_k1 (by decide)

theorem impl_node_graft_k1_p2 (a0 : Int) (b0 : Int) (b1 : Tr)
    (h1 : a0 ≠ b0) :
    SC cfg.P i_impl_node_graft_k1 [.s (.v (.int .i64) a0), .s (.fadr (.int .i64) b0), .s (.fadr .tree b1)] (.s (.v .tree Tr.leaf)) [] :=
  SC_of_run cfgOK (its := [.bool false])
    (ps := [(a0 == b0) = false]) (by kernel_rfl) ⟨(beq_eq_false_iff_ne.mpr h1), trivial⟩ get_impl_node_graft_k1 (by decide)

end Go.AI
