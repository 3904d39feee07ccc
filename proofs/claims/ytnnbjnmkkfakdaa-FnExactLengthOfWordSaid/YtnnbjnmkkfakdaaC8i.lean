/- Contracts: lists of numbers copied and compared. -/
import Derived.Test.YtnnbjnmkkfakdaaGJ
import Derived.Test.YtnnbjnmkkfakdaaCPg
set_option autoImplicit false
set_option maxRecDepth 100000
set_option linter.unusedVariables false
namespace Go.AI
open Go.Proofs

theorem toIntS_SC (l : List Int) (hl : l.length ≤ 2 ^ 30) : SC cfg.P i_laws_toIntS [.s (.v (.sl (.int .i64)) l)] (.s (.own t_int (.int .i64) l)) [] := by
  have key := loop_up (P := cfg.P) (np := 1) (c := lb P_laws_toIntS 0) (fun i (m : List Int) => laws_toIntS_L0a l (i : Int) m) (fun m => laws_toIntS_L0X1 l (l.length : Int) false m)
    (fun i m => m.set i (l.getD i 0)) (fun _ m => m.length = l.length) l.length
    (fun i m hi hm => ⟨by rw [List.length_set]; exact hm, fun e st hn => by
      rw [← wrap_succ (by omega)] at hn
      exact laws_toIntS_L0a_i1 _ _ _ (by omega) (by omega) (by omega) (by omega) (by omega) hn⟩)
    (fun m hm => laws_toIntS_L0a_x2 _ _ _ (by omega)) l.length 0 (List.replicate l.length (0 : Int)) (by omega) (by simp)
  have hL := key.1
  rw [itr_setR (fun i => l.getD i 0) l.length 0 _ (by simp), List.take_zero, List.nil_append, map_range' l 0 (fun x => x), List.map_id'] at hL
  exact laws_toIntS_p1 _ _ _ _ _ (by omega) (by unfold lim; omega) rfl hL

theorem eqIntS_SC (l : List Int) (hl : l.length ≤ 2 ^ 30) : SC cfg.P i_laws_eqIntS [.s (.v (.sl (.int .i64)) l), .s (.v (.sl (.int .i64)) l)] (.s (.v .bool true)) [] := by
  have key := loop_up (P := cfg.P) (np := 2) (c := lb P_laws_eqIntS 0) (fun i (_ : Unit) => laws_eqIntS_L0a l l (i : Int)) (fun _ => laws_eqIntS_L0X2 l l (l.length : Int) false)
    (fun _ u => u) (fun _ _ => True) l.length
    (fun i u hi _ => ⟨trivial, fun e st hn => by
      rw [← wrap_succ (by omega)] at hn
      exact laws_eqIntS_L0a_i2 _ _ _ (by omega) (by omega) (by omega) (by omega) rfl hn⟩)
    (fun u _ => laws_eqIntS_L0a_x3 _ _ _ (by omega)) l.length 0 () (by omega) trivial
  exact laws_eqIntS_p3 _ _ _ _ _ _ rfl key.1

end Go.AI
