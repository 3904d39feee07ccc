/- Contracts: what the laws compare with. -/
import Derived.Test.YtnoajkfmokcekaaGL
import Derived.Test.YtnoajkfmokcekaaAiG
set_option autoImplicit false
set_option maxRecDepth 100000
set_option linter.unusedVariables false
namespace Go.AI
open Go.Proofs

theorem eqStringS_SC (l : List ByteArray) (hl : l.length ≤ 2 ^ 40) : SC cfg.P i_laws_eqStringS [.s (.v (.sl .str) l), .s (.v (.sl .str) l)] (.s (.v .bool true)) [] := by
  have key : ∀ (m i : Nat), l.length - i = m → i ≤ l.length → LoopSC cfg.P 2 (lb P_laws_eqStringS 0) (laws_eqStringS_L0a l l (i : Int)) (.exit 0) (laws_eqStringS_L0X2 l l (l.length : Int) false) := by
    intro m
    induction m with
    | zero =>
      intro i hm hi
      have : i = l.length := by omega
      subst this
      exact laws_eqStringS_L0a_x3 _ _ _ (by omega)
    | succ m ih =>
      intro i hm hi
      have := ih (i + 1) (by omega) (by omega)
      have e : IntKind.wrap .i64 ((i : Int) + 1) = ((i + 1 : Nat) : Int) := by rw [w64] <;> omega
      rw [← e] at this
      exact laws_eqStringS_L0a_i2 _ _ _ (by omega) (by omega) (by omega) (by omega) rfl this
  exact laws_eqStringS_p3 _ _ _ _ _ _ rfl (key l.length 0 (by omega) (by omega))

end Go.AI
