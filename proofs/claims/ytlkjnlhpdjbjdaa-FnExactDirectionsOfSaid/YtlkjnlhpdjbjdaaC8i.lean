/- Contracts: lists of numbers compared. -/
import Derived.Test.YtlkjnlhpdjbjdaaGI
import Derived.Test.YtlkjnlhpdjbjdaaCPg
set_option autoImplicit false
set_option maxRecDepth 100000
set_option linter.unusedVariables false
namespace Go.AI
open Go.Proofs

theorem eqIntS_SC (l : List Int) (hl : l.length ≤ 2 ^ 30) : SC cfg.P i_laws_eqIntS [.s (.v (.sl (.int .i64)) l), .s (.v (.sl (.int .i64)) l)] (.s (.v .bool true)) [] := by
  have key := loop_up (P := cfg.P) (np := 2) (c := lb P_laws_eqIntS 0) (fun i (_ : Unit) => laws_eqIntS_L0a l l (i : Int)) (fun _ => laws_eqIntS_L0X2 l l (l.length : Int) false)
    (fun _ u => u) (fun _ _ => True) l.length
    (fun i u hi _ => ⟨trivial, fun e st hn => by
      rw [← wrap_succ (by omega)] at hn
      exact laws_eqIntS_L0a_i2 _ _ _ (by omega) (by omega) (by omega) (by omega) rfl hn⟩)
    (fun u _ => laws_eqIntS_L0a_x3 _ _ _ (by omega)) l.length 0 () (by omega) trivial
  exact laws_eqIntS_p3 _ _ _ _ _ _ rfl key.1

end Go.AI
