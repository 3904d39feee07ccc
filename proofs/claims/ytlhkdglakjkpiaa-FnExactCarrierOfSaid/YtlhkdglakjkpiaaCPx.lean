/- Right combs. -/
import Derived.Test.YtlhkdglakjkpiaaGA
import Derived.Test.YtlhkdglakjkpiaaCJx
import Derived.Test.YtlhkdglakjkpiaaCU
set_option autoImplicit false
set_option maxRecDepth 100000
set_option linter.unusedVariables false
namespace Go.AI
open Go.Proofs

/-- The right comb. -/
def combR : Nat → Tr
  | 0 => .leaf
  | n + 1 => .node .leaf (combR n)

theorem combR_c : ∀ n, (combR n).c = n
  | 0 => rfl
  | n + 1 => by simp only [combR, Tr.c, combR_c n]; omega

theorem combR_succ : ∀ n, combR (n + 1) = .node .leaf (combR n) := fun _ => rfl

theorem rightComb_SC (n : Nat) (h : n ≤ 2 ^ 30) : SC cfg.P i_impl_rightComb [.s (.v (.int .i64) (n : Int))] (.s (.v .tree (combR n))) [] := by
  have key : ∀ (m i : Nat), i + m = n → LoopSC cfg.P 1 (lb P_impl_rightComb 0) (impl_rightComb_L0a (combR i) (n : Int) (i : Int)) (.exit 0) (impl_rightComb_L0X1 (combR n) (n : Int) (n : Int) false) := by
    intro m
    induction m with
    | zero =>
      intro i hi
      have e : i = n := by omega
      subst e
      exact impl_rightComb_L0a_x2 _ _ _ (by omega)
    | succ m ih =>
      intro i hi
      have hn := ih (i + 1) (by omega)
      rw [← wrap_succ (by omega), combR_succ] at hn
      exact impl_rightComb_L0a_i1 _ _ _ (by omega) hn
  exact impl_rightComb_p1 _ _ _ _ _ (key n 0 (by omega))

theorem trRight_SC (n : Nat) (h : n ≤ 2 ^ 20) : SC cfg.P i_spec_trRight [.s (.v (.int .i64) (n : Int))] (.s (.v .str (bs (txt (combR n))))) [] := by
  have key : ∀ (m i : Nat), i + m = n → LoopSC cfg.P 1 (lb P_spec_trRight 0) (spec_trRight_L0a (m : Int) (bs (txt (combR i)))) (.exit 0) (spec_trRight_L0X1 0 (bs (txt (combR n))) false) := by
    intro m
    induction m with
    | zero =>
      intro i hi
      have e : i = n := by omega
      subst e
      exact spec_trRight_L0a_x2 _ _ (by omega)
    | succ m ih =>
      intro i hi
      have hn := ih (i + 1) (by omega)
      have ew : IntKind.wrap .i64 (((m + 1 : Nat) : Int) - 1) = (m : Int) := by rw [w64] <;> omega
      have hc := combR_c i
      rw [← ew, combR_succ] at hn
      exact spec_trRight_L0a_i1 _ _ _ (by omega) (trOf_SC .leaf (combR i) (by simp [Tr.c]) (by omega)) hn
  exact spec_trRight_p1 _ _ _ _ (key n 0 (by omega))

end Go.AI
