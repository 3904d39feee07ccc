/- A part of the road: what it proves stands in its last texts. -/
import Derived.Test.YtdfllkeekehplaaSIds
import Derived.Test.YtdfllkeekehplaaProg
set_option autoImplicit false
set_option maxRecDepth 100000
set_option linter.unusedVariables false
namespace Go.AI
open Go.Proofs

/-! ### impl_pair_reduced -/


def impl_pair_reduced_L0a (xo1 : (Tr × Tr)) (xo2 : (Tr × Tr)) : St := mkSt 15 [(1, .s (.adr 1 none)), (2, .s (.adr 2 none))] [(1, .box (.pr .tree .tree) xo1 false), (2, .box (.pr .tree .tree) xo2 false)]

def impl_pair_reduced_L0X1 (yo2 : (Tr × Tr)) : St := mkSt 15 [(2, .s (.adr 2 none))] [(2, .box (.pr .tree .tree) yo2 false)]

theorem impl_pair_reduced_L0a_x1 (xo1 : (Tr × Tr)) (xo2 : (Tr × Tr)) (dc1 : (List Int))
    (h1 : SC cfg.P i_impl_pair_both [.s (.v (.pr .tree .tree) xo1)] (.s (.own t_int (.int .i64) dc1)) [])
    (h2 : ((List.length dc1 : Nat) : Int) = (0 : Int)) :
    LoopSC cfg.P 1 (lb P_impl_pair_reduced 0) (impl_pair_reduced_L0a xo1 xo2) (.ret) (impl_pair_reduced_L0X1 xo1) :=
  loop_out cfgOK (f := i_impl_pair_reduced) (its := [.res (.s (.own t_int (.int .i64) dc1)) [] [] [5], .bool true])
    (ps := [SC cfg.P i_impl_pair_both [.s (.v (.pr .tree .tree) xo1)] (.s (.own t_int (.int .i64) dc1)) [],
      (((List.length dc1 : Nat) : Int) == (0 : Int)) = true]) (by kernel_rfl) ⟨h1, (beq_iff_eq.mpr h2), trivial⟩ (fun h => by cases h)

theorem impl_pair_reduced_L0a_i2 (xo1 : (Tr × Tr)) (xo2 : (Tr × Tr)) (dc1 : (List Int)) (dc2 : (Tr × Tr))
    (h1 : SC cfg.P i_impl_pair_both [.s (.v (.pr .tree .tree) xo1)] (.s (.own t_int (.int .i64) dc1)) [])
    (h2 : ((List.length dc1 : Nat) : Int) ≠ (0 : Int))
    (h3 : (0 : Int) < (List.length dc1 : Int))
    (h4 : ((0 : Int)).toNat < List.length dc1)
    (h5 : SC cfg.P i_impl_pair_drop [.s (.v (.pr .tree .tree) xo1), .s (.v (.int .i64) (List.getD dc1 ((0 : Int)).toNat (0 : Int)))] (.s (.v (.pr .tree .tree) dc2)) [])
    {e : AEx} {st : St} (next : LoopSC cfg.P 1 (lb P_impl_pair_reduced 0) (impl_pair_reduced_L0a dc2 xo2) e st) :
    LoopSC cfg.P 1 (lb P_impl_pair_reduced 0) (impl_pair_reduced_L0a xo1 xo2) e st :=
  loop_iter cfgOK (f := i_impl_pair_reduced) (its := [.res (.s (.own t_int (.int .i64) dc1)) [] [] [5], .bool false, .res (.s (.v (.pr .tree .tree) dc2)) [] [] []])
    (ps := [SC cfg.P i_impl_pair_both [.s (.v (.pr .tree .tree) xo1)] (.s (.own t_int (.int .i64) dc1)) [],
      (((List.length dc1 : Nat) : Int) == (0 : Int)) = false,
      0 ≤ (0 : Int),
      (0 : Int) < (List.length dc1 : Int),
      ((0 : Int)).toNat < List.length dc1,
      SC cfg.P i_impl_pair_drop [.s (.v (.pr .tree .tree) xo1), .s (.v (.int .i64) (List.getD dc1 ((0 : Int)).toNat (0 : Int)))] (.s (.v (.pr .tree .tree) dc2)) []]) (st1 := impl_pair_reduced_L0a dc2 xo2) (by kernel_rfl) ⟨h1, (beq_eq_false_iff_ne.mpr h2), (by decide), h3, h4, h5, trivial⟩ next

theorem impl_pair_reduced_p1 (a0 : (Tr × Tr)) (k1yo2 : (Tr × Tr))
    (h1 : LoopSC cfg.P 1 (lb P_impl_pair_reduced 0) (impl_pair_reduced_L0a a0 (Tr.leaf, Tr.leaf)) (.ret) (impl_pair_reduced_L0X1 k1yo2)) :
    SC cfg.P i_impl_pair_reduced [.s (.v (.pr .tree .tree) a0)] (.s (.v (.pr .tree .tree) k1yo2)) [] :=
  SC_of_run cfgOK (its := [.loop (fun _ => (.ret, impl_pair_reduced_L0X1 k1yo2))])
    (ps := [LoopSC cfg.P 1 (lb P_impl_pair_reduced 0) (impl_pair_reduced_L0a a0 (Tr.leaf, Tr.leaf)) (.ret) (impl_pair_reduced_L0X1 k1yo2)]) (by kernel_rfl) ⟨h1, trivial⟩ get_impl_pair_reduced (by decide)

/-! ### impl_two -/


/-! ### impl_pair_fits -/


/-! ### spec_prIf -/


/-! ### spec_prReduce -/


end Go.AI
