/- Contracts: a forest with one more caret. -/
import Derived.Test.YtdfllkeekehplaaC9k
import Derived.Test.YtdfllkeekehplaaCZa
set_option autoImplicit false
set_option maxRecDepth 100000
set_option linter.unusedVariables false
namespace Go.AI
open Go.Proofs

theorem stackL_len (ts us : List Tr) : (stackL ts us).length ≤ ts.length + us.length := stk_len ts us _ 0 0

theorem split_SC (ts : List Tr) (n : Nat) (hn : n ≤ 2 ^ 10) (h1 : ts.length ≤ 2 ^ 19) (hc : ∀ t ∈ ts, t.c ≤ 2 ^ 10) :
    SC cfg.P i_impl_forest_split [.s (.v (.sl .tree) ts), .s (.v (.int .i64) (n : Int))] (.s (.own t_pimpl_node .tree (stackL ts (letF n)))) [] := by
  have ew : IntKind.wrap .i64 ((n : Int) + 1) = ((n + 1 : Nat) : Int) := wrap_succ (by omega)
  have hs := stack_SC ts (letF n) h1 (by rw [letF_len]; omega) hc
  have e : List.set (List.replicate ((IntKind.wrap .i64 ((n : Int) + 1))).toNat Tr.leaf) ((n : Int)).toNat (Tr.node Tr.leaf Tr.leaf) = letF n := by
    rw [ew, Int.toNat_natCast, Int.toNat_natCast, letF, List.replicate_succ', List.set_append_right _ _ (by simp)]
    simp
  rw [← e] at hs
  have hl : (List.replicate ((IntKind.wrap .i64 ((n : Int) + 1))).toNat Tr.leaf).length = n + 1 := by rw [List.length_replicate, ew, Int.toNat_natCast]
  rw [e] at hs
  have := impl_forest_split_p1 ts (n : Int) (stackL ts (letF n)) (by rw [ew]; omega) (by rw [ew]; unfold lim; omega) rfl (by omega) (by rw [hl]; omega) (by rw [hl]; omega) (by rw [e]; exact hs)
  exact this

end Go.AI
